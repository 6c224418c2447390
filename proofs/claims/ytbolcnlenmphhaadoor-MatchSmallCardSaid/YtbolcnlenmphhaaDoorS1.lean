/- Layer 26: summaries of the functions, first part: prefixes, ranges, which rules are right. Printed by a program from the evaluator's own output; the lemmas by hand. -/
import Derived.Test.YtbolcnlenmphhaaDoorEvK
import Derived.Test.YtbolcnlenmphhaaDoorFn
import Derived.Test.YtbolcnlenmphhaaDoorPre
set_option linter.unusedVariables false
set_option linter.unusedSimpArgs false
namespace Go.Proofs.YtbolcnlenmphhaaDoor
open Go Go.RowKit Ev

/-- The package's variable, which never changes. -/
def G0 : Glob := fun b off => if b = 0 then (if off = 0 then some (.sc (.lit (.i .u16) 0)) else if off = 1 then some (.sc (.lit (.i .u16) 65535)) else none) else none
def ruleK : List K := [.i .u8, .i .u8, .i .u8, .i .u8, .i .u32, .i .u8, .i .u32, .i .u8, .i .u16, .i .u16, .i .u16, .i .u16, .b]
def factsK : List K := [.i .u8, .i .u32, .i .u32, .i .u16, .i .u16, .i .u8, .i .u8, .i .u8, .i .u8, .i .u32, .i .u32, .i .i64, .i .i64, .i .u8, .i .u32, .i .u32, .i .u16, .i .u16, .i .u8]
def fieldsK : List K := [.i .u32, .i .u32, .i .u32, .i .u32, .i .u32, .i .u32, .i .u32, .i .u32, .i .u32, .i .u32, .i .u32, .i .u32, .i .u32, .i .u32, .i .u32, .i .u32, .i .u32, .i .u32, .i .u32, .i .u32, .i .u32, .i .u32, .i .u32, .i .u32, .i .u32, .i .u32, .i .u32, .i .u32]
def valuesK : List K := [.i .u32, .i .u32, .i .u32, .i .u32, .i .u32, .i .u32, .i .u32]
def smallK : List K := [.i .u8, .i .u8, .i .u8, .i .u8, .i .u8, .i .u8, .i .u8, .i .u8, .i .u8, .i .u8, .i .u8, .i .u8, .b]

theorem rng8 {a : Int} (h : K.norm (.i .u8) a = a) : 0 ≤ a ∧ a < 256 := by
  have h : IntKind.wrap .u8 a = a := h
  rw [wrap8] at h; omega
theorem rng16 {a : Int} (h : K.norm (.i .u16) a = a) : 0 ≤ a ∧ a < 65536 := by
  have h : IntKind.wrap .u16 a = a := h
  rw [wrap16] at h; omega
theorem rng32 {a : Int} (h : K.norm (.i .u32) a = a) : 0 ≤ a ∧ a < 4294967296 := by
  have h : IntKind.wrap .u32 a = a := h
  rw [wrap32] at h; omega
theorem rng64i {a : Int} (h : K.norm (.i .i64) a = a) : -9223372036854775808 ≤ a ∧ a < 9223372036854775808 := by
  simp only [K.norm, IntKind.wrap, IntKind.signed, IntKind.bits] at h
  simp at h
  omega

def T0 : Tabs := []
theorem tok0 : TabsOK Tryd.prog G0 T0 := .nil _ _

def es57 : List E :=
  [(.sh .shl .u32 (.lit (.i .u32) 4294967295) (.bin .sub .u8 (.lit (.i .u8) 32) (.var (.i .u8) 0)))]
def en57' : Entry := ⟨57, 57, [.s (.i .u8)], .one (.s (.i .u32)), fnOf T0 es57⟩
theorem ok57' : EntryOK Tryd.prog G0 en57' := evE_ok (N := 200) (n := 20) (by kernel_rfl) tok0 (by kernel_rfl)
def en57 : Entry := ⟨57, 57, [.s (.i .u8)], .one (.s (.i .u32)), fun _ xs => maskI (xs.getD 0 0)⟩
theorem lem57 : ∀ xs, fits (allKs en57'.ps) xs → outsE en57'.fn xs 0 en57'.rs.ks = outsE en57.fn xs 0 en57.rs.ks := by
  intro xs hx
  replace hx : fits [.i .u8] xs := hx
  obtain ⟨a0, r0, rfl, h0, y0⟩ := fits_cons hx
  obtain rfl := fits_nil y0
  clear hx y0
  refine outs_one ?_
  show fnOf T0 es57 0 [a0] = maskI a0
  simp only [es57, fnOf, E.den, E.denL, binI, dvI, shI, cmpB, List.getD_cons_zero, List.getD_cons_succ, i2b_b2i, norm_b2i, h0]
  rfl
theorem ok57 : EntryOK Tryd.prog G0 en57 := ok57'.congr lem57
def T57 : Tabs := en57 :: T0
theorem tok57 : TabsOK Tryd.prog G0 T57 := .cons ok57 tok0

def es36 : List E :=
  [(.and (.cmp .leq (.var (.i .u8) 1) (.lit (.i .u8) 32)) (.cmp .eql (.bin .andNot .u32 (.var (.i .u32) 0) (.app (.i .u32) 57 0 [(.var (.i .u8) 1)])) (.lit (.i .u32) 0)))]
def en36' : Entry := ⟨36, 36, [.a [.i .u32, .i .u8]], .one (.s (.b)), fnOf T57 es36⟩
theorem ok36' : EntryOK Tryd.prog G0 en36' := evE_ok (N := 200) (n := 20) (by kernel_rfl) tok57 (by kernel_rfl)
def en36 : Entry := ⟨36, 36, [.a [.i .u32, .i .u8]], .one (.s (.b)), fun _ xs => b2i (pR (xs.getD 0 0) (xs.getD 1 0))⟩
theorem lem36 : ∀ xs, fits (allKs en36'.ps) xs → outsE en36'.fn xs 0 en36'.rs.ks = outsE en36.fn xs 0 en36.rs.ks := by
  intro xs hx
  replace hx : fits [.i .u32, .i .u8] xs := hx
  obtain ⟨a0, r0, rfl, h0, y0⟩ := fits_cons hx
  obtain ⟨a1, r1, rfl, h1, y1⟩ := fits_cons y0
  obtain rfl := fits_nil y1
  clear hx y0 y1
  have q0 : 0 ≤ a0 ∧ a0 < 4294967296 := rng32 h0
  have q1 : 0 ≤ a1 ∧ a1 < 256 := rng8 h1
  refine outs_one ?_
  show fnOf T57 es36 0 [a0, a1] = b2i (pR a0 a1)
  have F57 : ∀ xs, T57.F 57 0 xs = maskI (xs.getD 0 0) := fun _ => rfl
  simp only [es36, fnOf, E.den, E.denL, binI, dvI, shI, cmpB, List.getD_cons_zero, List.getD_cons_succ, i2b_b2i, norm_b2i, F57, h0, h1]
  have hm := mask_in a1 q1.1 (by omega)
  have e : maskI a1 % 4294967296 = maskI a1 := by omega
  simp only [K.norm, wrap8, wrap32, Int.reduceMod, e, pR]
  by_cases hn : a1 ≤ 32
  · rw [host a0 a1 q0 q1.1 hn]
  · simp [hn]
theorem ok36 : EntryOK Tryd.prog G0 en36 := ok36'.congr lem36
def T36 : Tabs := en36 :: T57
theorem tok36 : TabsOK Tryd.prog G0 T36 := .cons ok36 tok57

def es39 : List E :=
  [(.and (.cmp .eql (.var (.i .u16) 0) (.lit (.i .u16) 0)) (.cmp .eql (.var (.i .u16) 1) (.lit (.i .u16) 65535)))]
def en39' : Entry := ⟨39, 39, [.a [.i .u16, .i .u16]], .one (.s (.b)), fnOf T36 es39⟩
theorem ok39' : EntryOK Tryd.prog G0 en39' := evE_ok (N := 200) (n := 20) (by kernel_rfl) tok36 (by kernel_rfl)
def en39 : Entry := ⟨39, 39, [.a [.i .u16, .i .u16]], .one (.s (.b)), fun _ xs => b2i (xs.getD 0 0 == 0 && xs.getD 1 0 == 65535)⟩
theorem lem39 : ∀ xs, fits (allKs en39'.ps) xs → outsE en39'.fn xs 0 en39'.rs.ks = outsE en39.fn xs 0 en39.rs.ks := by
  intro xs hx
  replace hx : fits [.i .u16, .i .u16] xs := hx
  obtain ⟨a0, r0, rfl, h0, y0⟩ := fits_cons hx
  obtain ⟨a1, r1, rfl, h1, y1⟩ := fits_cons y0
  obtain rfl := fits_nil y1
  clear hx y0 y1
  refine outs_one ?_
  show fnOf T36 es39 0 [a0, a1] = b2i (a0 == 0 && a1 == 65535)
  simp only [es39, fnOf, E.den, E.denL, binI, dvI, shI, cmpB, List.getD_cons_zero, List.getD_cons_succ, i2b_b2i, norm_b2i, h0, h1]
  simp [K.norm, wrap16]
theorem ok39 : EntryOK Tryd.prog G0 en39 := ok39'.congr lem39
def T39 : Tabs := en39 :: T36
theorem tok39 : TabsOK Tryd.prog G0 T39 := .cons ok39 tok36

def es17 : List E :=
  [(.not (.or (.cmp .gtr (.var (.i .u8) 0) (.lit (.i .u8) 2)) (.and (.not (.cmp .gtr (.var (.i .u8) 0) (.lit (.i .u8) 2))) (.or (.and (.and (.not (.or (.cmp .eql (.var (.i .u8) 1) (.lit (.i .u8) 6)) (.cmp .eql (.var (.i .u8) 1) (.lit (.i .u8)
    17)))) (.cmp .neq (.var (.i .u8) 1) (.lit (.i .u8) 0))) (.cmp .neq (.var (.i .u8) 1) (.lit (.i .u8) 1))) (.and (.not (.and (.and (.not (.or (.cmp .eql (.var (.i .u8) 1) (.lit (.i .u8) 6)) (.cmp .eql (.var (.i .u8) 1) (.lit (.i .u8) 17))))
    (.cmp .neq (.var (.i .u8) 1) (.lit (.i .u8) 0))) (.cmp .neq (.var (.i .u8) 1) (.lit (.i .u8) 1)))) (.or (.or (.not (.app .b 36 0 [(.var (.i .u32) 4), (.var (.i .u8) 5)])) (.not (.app .b 36 0 [(.var (.i .u32) 6), (.var (.i .u8) 7)]))) (.and
    (.not (.or (.not (.app .b 36 0 [(.var (.i .u32) 4), (.var (.i .u8) 5)])) (.not (.app .b 36 0 [(.var (.i .u32) 6), (.var (.i .u8) 7)])))) (.or (.or (.cmp .gtr (.var (.i .u16) 8) (.var (.i .u16) 9)) (.cmp .gtr (.var (.i .u16) 10) (.var (.i
    .u16) 11))) (.and (.not (.or (.cmp .gtr (.var (.i .u16) 8) (.var (.i .u16) 9)) (.cmp .gtr (.var (.i .u16) 10) (.var (.i .u16) 11)))) (.or (.and (.not (.or (.cmp .eql (.var (.i .u8) 1) (.lit (.i .u8) 6)) (.cmp .eql (.var (.i .u8) 1) (.lit
    (.i .u8) 17)))) (.or (.not (.app .b 39 0 [(.var (.i .u16) 8), (.var (.i .u16) 9)])) (.not (.app .b 39 0 [(.var (.i .u16) 10), (.var (.i .u16) 11)])))) (.and (.not (.and (.not (.or (.cmp .eql (.var (.i .u8) 1) (.lit (.i .u8) 6)) (.cmp .eql
    (.var (.i .u8) 1) (.lit (.i .u8) 17)))) (.or (.not (.app .b 39 0 [(.var (.i .u16) 8), (.var (.i .u16) 9)])) (.not (.app .b 39 0 [(.var (.i .u16) 10), (.var (.i .u16) 11)]))))) (.or (.or (.cmp .neq (.bin .andNot .u8 (.var (.i .u8) 2) (.lit
    (.i .u8) 63)) (.lit (.i .u8) 0)) (.cmp .neq (.bin .andNot .u8 (.var (.i .u8) 3) (.var (.i .u8) 2)) (.lit (.i .u8) 0))) (.and (.cmp .neq (.var (.i .u8) 2) (.lit (.i .u8) 0)) (.cmp .neq (.var (.i .u8) 1) (.lit (.i .u8) 6)))))))))))))))]
def en17' : Entry := ⟨17, 17, [.a ruleK], .one (.s (.b)), fnOf T39 es17⟩
theorem ok17' : EntryOK Tryd.prog G0 en17' := evE_ok (N := 200) (n := 20) (by kernel_rfl) tok39 (by kernel_rfl)
def en17 : Entry := ⟨17, 17, [.a ruleK], .one (.s (.b)), fun _ xs => b2i (rightS fun i => xs.getD i 0)⟩
theorem lem17 : ∀ xs, fits (allKs en17'.ps) xs → outsE en17'.fn xs 0 en17'.rs.ks = outsE en17.fn xs 0 en17.rs.ks := by
  intro xs hx
  replace hx : fits [.i .u8, .i .u8, .i .u8, .i .u8, .i .u32, .i .u8, .i .u32, .i .u8, .i .u16, .i .u16, .i .u16, .i .u16, .b] xs := hx
  obtain ⟨a0, r0, rfl, h0, y0⟩ := fits_cons hx
  obtain ⟨a1, r1, rfl, h1, y1⟩ := fits_cons y0
  obtain ⟨a2, r2, rfl, h2, y2⟩ := fits_cons y1
  obtain ⟨a3, r3, rfl, h3, y3⟩ := fits_cons y2
  obtain ⟨a4, r4, rfl, h4, y4⟩ := fits_cons y3
  obtain ⟨a5, r5, rfl, h5, y5⟩ := fits_cons y4
  obtain ⟨a6, r6, rfl, h6, y6⟩ := fits_cons y5
  obtain ⟨a7, r7, rfl, h7, y7⟩ := fits_cons y6
  obtain ⟨a8, r8, rfl, h8, y8⟩ := fits_cons y7
  obtain ⟨a9, r9, rfl, h9, y9⟩ := fits_cons y8
  obtain ⟨a10, r10, rfl, h10, y10⟩ := fits_cons y9
  obtain ⟨a11, r11, rfl, h11, y11⟩ := fits_cons y10
  obtain ⟨a12, r12, rfl, h12, y12⟩ := fits_cons y11
  obtain rfl := fits_nil y12
  clear hx y0 y1 y2 y3 y4 y5 y6 y7 y8 y9 y10 y11 y12
  have q0 : 0 ≤ a0 ∧ a0 < 256 := rng8 h0
  have q1 : 0 ≤ a1 ∧ a1 < 256 := rng8 h1
  have q2 : 0 ≤ a2 ∧ a2 < 256 := rng8 h2
  have q3 : 0 ≤ a3 ∧ a3 < 256 := rng8 h3
  have q4 : 0 ≤ a4 ∧ a4 < 4294967296 := rng32 h4
  have q5 : 0 ≤ a5 ∧ a5 < 256 := rng8 h5
  have q6 : 0 ≤ a6 ∧ a6 < 4294967296 := rng32 h6
  have q7 : 0 ≤ a7 ∧ a7 < 256 := rng8 h7
  have q8 : 0 ≤ a8 ∧ a8 < 65536 := rng16 h8
  have q9 : 0 ≤ a9 ∧ a9 < 65536 := rng16 h9
  have q10 : 0 ≤ a10 ∧ a10 < 65536 := rng16 h10
  have q11 : 0 ≤ a11 ∧ a11 < 65536 := rng16 h11
  refine outs_one ?_
  show fnOf T39 es17 0 [a0, a1, a2, a3, a4, a5, a6, a7, a8, a9, a10, a11, a12] = b2i (rightS fun i => [a0, a1, a2, a3, a4, a5, a6, a7, a8, a9, a10, a11, a12].getD i 0)
  have F36 : ∀ xs, T39.F 36 0 xs = b2i (pR (xs.getD 0 0) (xs.getD 1 0)) := fun _ => rfl
  have F39 : ∀ xs, T39.F 39 0 xs = b2i (xs.getD 0 0 == 0 && xs.getD 1 0 == 65535) := fun _ => rfl
  simp only [es17, fnOf, E.den, E.denL, binI, dvI, shI, cmpB, List.getD_cons_zero, List.getD_cons_succ, i2b_b2i, norm_b2i, F36, F39, h0, h1, h2, h3, h4, h5, h6, h7, h8, h9, h10, h11, h12]
  simp only [rightS, rR, sub8, List.getD_cons_zero, List.getD_cons_succ, K.norm, wrap8, Int.reduceMod]
  rw [andNot8 a2 63 q2 (by omega), andNot8 a3 a2 q3 q2]
  congr 1
  generalize (pR a4 a5) = p0
  generalize (pR a6 a7) = p1
  have e2 : (decide (a2 ≤ 63)) = (a2.toNat &&& (255 - (63:Int).toNat) == 0) := by
    have := le63 a2.toNat (by omega)
    have e3 : decide (a2 ≤ 63) = decide (a2.toNat ≤ 63) := by rw [decide_eq_decide]; omega
    rw [e3]; exact this
  rw [e2]
  grind
theorem ok17 : EntryOK Tryd.prog G0 en17 := ok17'.congr lem17
def T17 : Tabs := en17 :: T39
theorem tok17 : TabsOK Tryd.prog G0 T17 := .cons ok17 tok39

def en62 : Entry := ⟨62, 62, [.s (.i .i64)], .one (.s (.i .u64)), fun _ xs => IntKind.wrap .u64 (2 ^ (xs.getD 0 0).toNat)⟩
theorem ok62 : EntryOK Tryd.prog G0 en62 := by
  intro xs hx w hG
  replace hx : fits [.i .i64] xs := hx
  obtain ⟨a0, r0, rfl, h0, y0⟩ := fits_cons hx
  obtain rfl := fits_nil y0
  clear hx hG y0
  have q : a0 ≤ 9223372036854775807 := by
    have := rng64i h0
    omega
  refine (power_any a0 q w).mono ?_
  rintro e w' ⟨rfl, rfl⟩
  refine ⟨?_, Below.refl _ _⟩
  show _ = Ending.returned (.int .u64 (IntKind.wrap .u64 (IntKind.wrap .u64 (2 ^ a0.toNat))))
  rw [wrap64u, wrap64u, Int.emod_emod]
def T62 : Tabs := en62 :: T17
theorem tok62 : TabsOK Tryd.prog G0 T62 := .cons ok62 tok17

def en63 : Entry := ⟨63, 63, [.a [.i .u32, .i .u8], .s (.i .u32)], .one (.s .b), fun _ xs => b2i (inP (xs.getD 0 0) (xs.getD 1 0) (xs.getD 2 0))⟩
theorem ok63 : EntryOK Tryd.prog G0 en63 := by
  intro xs hx w hG
  replace hx : fits [.i .u32, .i .u8, .i .u32] xs := hx
  obtain ⟨a0, r0, rfl, h0, y0⟩ := fits_cons hx
  obtain ⟨a1, r1, rfl, h1, y1⟩ := fits_cons y0
  obtain ⟨a2, r2, rfl, h2, y2⟩ := fits_cons y1
  obtain rfl := fits_nil y2
  clear hx hG y0 y1 y2
  have q0 : 0 ≤ a0 ∧ a0 < 4294967296 := rng32 h0
  have q1 : 0 ≤ a1 ∧ a1 < 256 := rng8 h1
  have q2 : 0 ≤ a2 ∧ a2 < 4294967296 := rng32 h2
  refine (in_any a0 a1 a2 q0 ⟨q1.1, by omega⟩ q2 w).mono ?_
  rintro e w' ⟨rfl, hb⟩
  refine ⟨?_, hb⟩
  show _ = Ending.returned (K.val .b (K.norm .b (b2i (inP a0 a1 a2))))
  rw [norm_b2i, K.val_b2i]
  rfl
def T63 : Tabs := en63 :: T62
theorem tok63 : TabsOK Tryd.prog G0 T63 := .cons ok63 tok62

def en52 : Entry := ⟨52, 52, [.a [.i .u32, .i .u8]], .one (.s .b), fun _ xs => b2i (pR (xs.getD 0 0) (xs.getD 1 0))⟩
theorem ok52 : EntryOK Tryd.prog G0 en52 := by
  intro xs hx w hG
  replace hx : fits [.i .u32, .i .u8] xs := hx
  obtain ⟨a0, r0, rfl, h0, y0⟩ := fits_cons hx
  obtain ⟨a1, r1, rfl, h1, y1⟩ := fits_cons y0
  obtain rfl := fits_nil y1
  clear hx hG y0 y1
  have q0 : 0 ≤ a0 ∧ a0 < 4294967296 := rng32 h0
  have q1 : 0 ≤ a1 ∧ a1 < 256 := rng8 h1
  refine (rightPrefix_any a0 a1 q0 ⟨q1.1, by omega⟩ w).mono ?_
  rintro e w' ⟨rfl, hb⟩
  refine ⟨?_, hb⟩
  show _ = Ending.returned (K.val .b (K.norm .b (b2i (pR a0 a1))))
  rw [norm_b2i, K.val_b2i]
  rfl
def T52 : Tabs := en52 :: T63
theorem tok52 : TabsOK Tryd.prog G0 T52 := .cons ok52 tok63

def es540 : List E :=
  [(.cmp .eql (.dv .rem .u64 (.dv .quo .u64 (.conv .u64 (.var (.i .u8) 0)) 1) 2) (.lit (.i .u64) 1))]
def en540' : Entry := ⟨540, 54, [.s (.i .u8), .l (.i .i64) 0], .one (.s (.b)), fnOf T52 es540⟩
theorem ok540' : EntryOK Tryd.prog G0 en540' := evE_ok (N := 200) (n := 20) (by kernel_rfl) tok52 (by kernel_rfl)
def en540 : Entry := ⟨540, 54, [.s (.i .u8), .l (.i .i64) 0], .one (.s (.b)), fun _ xs => b2i (bitB (xs.getD 0 0) 0)⟩
theorem lem540 : ∀ xs, fits (allKs en540'.ps) xs → outsE en540'.fn xs 0 en540'.rs.ks = outsE en540.fn xs 0 en540.rs.ks := by
  intro xs hx
  replace hx : fits [.i .u8] xs := hx
  obtain ⟨a0, r0, rfl, h0, y0⟩ := fits_cons hx
  obtain rfl := fits_nil y0
  clear hx y0
  have q0 : 0 ≤ a0 ∧ a0 < 256 := rng8 h0
  refine outs_one ?_
  show fnOf T52 es540 0 [a0] = b2i (bitB a0 0)
  simp only [es540, fnOf, E.den, E.denL, binI, dvI, shI, cmpB, List.getD_cons_zero, List.getD_cons_succ, i2b_b2i, norm_b2i, h0]
  simp only [K.norm, wrap64u, Int.reduceMod]
  rw [← bit_eq a0 q0.1 0, Int.tmod_eq_emod_of_nonneg (by omega), Int.tdiv_eq_ediv_of_nonneg (by omega)]
  congr 2
  have := @Int.ediv_le_self a0 1 q0.1
  show _ = a0 / 1 % 2
  omega
theorem ok540 : EntryOK Tryd.prog G0 en540 := ok540'.congr lem540
def T540 : Tabs := en540 :: T52
theorem tok540 : TabsOK Tryd.prog G0 T540 := .cons ok540 tok52

def es541 : List E :=
  [(.cmp .eql (.dv .rem .u64 (.dv .quo .u64 (.conv .u64 (.var (.i .u8) 0)) 2) 2) (.lit (.i .u64) 1))]
def en541' : Entry := ⟨541, 54, [.s (.i .u8), .l (.i .i64) 1], .one (.s (.b)), fnOf T540 es541⟩
theorem ok541' : EntryOK Tryd.prog G0 en541' := evE_ok (N := 200) (n := 20) (by kernel_rfl) tok540 (by kernel_rfl)
def en541 : Entry := ⟨541, 54, [.s (.i .u8), .l (.i .i64) 1], .one (.s (.b)), fun _ xs => b2i (bitB (xs.getD 0 0) 1)⟩
theorem lem541 : ∀ xs, fits (allKs en541'.ps) xs → outsE en541'.fn xs 0 en541'.rs.ks = outsE en541.fn xs 0 en541.rs.ks := by
  intro xs hx
  replace hx : fits [.i .u8] xs := hx
  obtain ⟨a0, r0, rfl, h0, y0⟩ := fits_cons hx
  obtain rfl := fits_nil y0
  clear hx y0
  have q0 : 0 ≤ a0 ∧ a0 < 256 := rng8 h0
  refine outs_one ?_
  show fnOf T540 es541 0 [a0] = b2i (bitB a0 1)
  simp only [es541, fnOf, E.den, E.denL, binI, dvI, shI, cmpB, List.getD_cons_zero, List.getD_cons_succ, i2b_b2i, norm_b2i, h0]
  simp only [K.norm, wrap64u, Int.reduceMod]
  rw [← bit_eq a0 q0.1 1, Int.tmod_eq_emod_of_nonneg (by omega), Int.tdiv_eq_ediv_of_nonneg (by omega)]
  congr 2
  have := @Int.ediv_le_self a0 2 q0.1
  show _ = a0 / 2 % 2
  omega
theorem ok541 : EntryOK Tryd.prog G0 en541 := ok541'.congr lem541
def T541 : Tabs := en541 :: T540
theorem tok541 : TabsOK Tryd.prog G0 T541 := .cons ok541 tok540

def es542 : List E :=
  [(.cmp .eql (.dv .rem .u64 (.dv .quo .u64 (.conv .u64 (.var (.i .u8) 0)) 4) 2) (.lit (.i .u64) 1))]
def en542' : Entry := ⟨542, 54, [.s (.i .u8), .l (.i .i64) 2], .one (.s (.b)), fnOf T541 es542⟩
theorem ok542' : EntryOK Tryd.prog G0 en542' := evE_ok (N := 200) (n := 20) (by kernel_rfl) tok541 (by kernel_rfl)
def en542 : Entry := ⟨542, 54, [.s (.i .u8), .l (.i .i64) 2], .one (.s (.b)), fun _ xs => b2i (bitB (xs.getD 0 0) 2)⟩
theorem lem542 : ∀ xs, fits (allKs en542'.ps) xs → outsE en542'.fn xs 0 en542'.rs.ks = outsE en542.fn xs 0 en542.rs.ks := by
  intro xs hx
  replace hx : fits [.i .u8] xs := hx
  obtain ⟨a0, r0, rfl, h0, y0⟩ := fits_cons hx
  obtain rfl := fits_nil y0
  clear hx y0
  have q0 : 0 ≤ a0 ∧ a0 < 256 := rng8 h0
  refine outs_one ?_
  show fnOf T541 es542 0 [a0] = b2i (bitB a0 2)
  simp only [es542, fnOf, E.den, E.denL, binI, dvI, shI, cmpB, List.getD_cons_zero, List.getD_cons_succ, i2b_b2i, norm_b2i, h0]
  simp only [K.norm, wrap64u, Int.reduceMod]
  rw [← bit_eq a0 q0.1 2, Int.tmod_eq_emod_of_nonneg (by omega), Int.tdiv_eq_ediv_of_nonneg (by omega)]
  congr 2
  have := @Int.ediv_le_self a0 4 q0.1
  show _ = a0 / 4 % 2
  omega
theorem ok542 : EntryOK Tryd.prog G0 en542 := ok542'.congr lem542
def T542 : Tabs := en542 :: T541
theorem tok542 : TabsOK Tryd.prog G0 T542 := .cons ok542 tok541

def es543 : List E :=
  [(.cmp .eql (.dv .rem .u64 (.dv .quo .u64 (.conv .u64 (.var (.i .u8) 0)) 8) 2) (.lit (.i .u64) 1))]
def en543' : Entry := ⟨543, 54, [.s (.i .u8), .l (.i .i64) 3], .one (.s (.b)), fnOf T542 es543⟩
theorem ok543' : EntryOK Tryd.prog G0 en543' := evE_ok (N := 200) (n := 20) (by kernel_rfl) tok542 (by kernel_rfl)
def en543 : Entry := ⟨543, 54, [.s (.i .u8), .l (.i .i64) 3], .one (.s (.b)), fun _ xs => b2i (bitB (xs.getD 0 0) 3)⟩
theorem lem543 : ∀ xs, fits (allKs en543'.ps) xs → outsE en543'.fn xs 0 en543'.rs.ks = outsE en543.fn xs 0 en543.rs.ks := by
  intro xs hx
  replace hx : fits [.i .u8] xs := hx
  obtain ⟨a0, r0, rfl, h0, y0⟩ := fits_cons hx
  obtain rfl := fits_nil y0
  clear hx y0
  have q0 : 0 ≤ a0 ∧ a0 < 256 := rng8 h0
  refine outs_one ?_
  show fnOf T542 es543 0 [a0] = b2i (bitB a0 3)
  simp only [es543, fnOf, E.den, E.denL, binI, dvI, shI, cmpB, List.getD_cons_zero, List.getD_cons_succ, i2b_b2i, norm_b2i, h0]
  simp only [K.norm, wrap64u, Int.reduceMod]
  rw [← bit_eq a0 q0.1 3, Int.tmod_eq_emod_of_nonneg (by omega), Int.tdiv_eq_ediv_of_nonneg (by omega)]
  congr 2
  have := @Int.ediv_le_self a0 8 q0.1
  show _ = a0 / 8 % 2
  omega
theorem ok543 : EntryOK Tryd.prog G0 en543 := ok543'.congr lem543
def T543 : Tabs := en543 :: T542
theorem tok543 : TabsOK Tryd.prog G0 T543 := .cons ok543 tok542

def es544 : List E :=
  [(.cmp .eql (.dv .rem .u64 (.dv .quo .u64 (.conv .u64 (.var (.i .u8) 0)) 16) 2) (.lit (.i .u64) 1))]
def en544' : Entry := ⟨544, 54, [.s (.i .u8), .l (.i .i64) 4], .one (.s (.b)), fnOf T543 es544⟩
theorem ok544' : EntryOK Tryd.prog G0 en544' := evE_ok (N := 200) (n := 20) (by kernel_rfl) tok543 (by kernel_rfl)
def en544 : Entry := ⟨544, 54, [.s (.i .u8), .l (.i .i64) 4], .one (.s (.b)), fun _ xs => b2i (bitB (xs.getD 0 0) 4)⟩
theorem lem544 : ∀ xs, fits (allKs en544'.ps) xs → outsE en544'.fn xs 0 en544'.rs.ks = outsE en544.fn xs 0 en544.rs.ks := by
  intro xs hx
  replace hx : fits [.i .u8] xs := hx
  obtain ⟨a0, r0, rfl, h0, y0⟩ := fits_cons hx
  obtain rfl := fits_nil y0
  clear hx y0
  have q0 : 0 ≤ a0 ∧ a0 < 256 := rng8 h0
  refine outs_one ?_
  show fnOf T543 es544 0 [a0] = b2i (bitB a0 4)
  simp only [es544, fnOf, E.den, E.denL, binI, dvI, shI, cmpB, List.getD_cons_zero, List.getD_cons_succ, i2b_b2i, norm_b2i, h0]
  simp only [K.norm, wrap64u, Int.reduceMod]
  rw [← bit_eq a0 q0.1 4, Int.tmod_eq_emod_of_nonneg (by omega), Int.tdiv_eq_ediv_of_nonneg (by omega)]
  congr 2
  have := @Int.ediv_le_self a0 16 q0.1
  show _ = a0 / 16 % 2
  omega
theorem ok544 : EntryOK Tryd.prog G0 en544 := ok544'.congr lem544
def T544 : Tabs := en544 :: T543
theorem tok544 : TabsOK Tryd.prog G0 T544 := .cons ok544 tok543

def es545 : List E :=
  [(.cmp .eql (.dv .rem .u64 (.dv .quo .u64 (.conv .u64 (.var (.i .u8) 0)) 32) 2) (.lit (.i .u64) 1))]
def en545' : Entry := ⟨545, 54, [.s (.i .u8), .l (.i .i64) 5], .one (.s (.b)), fnOf T544 es545⟩
theorem ok545' : EntryOK Tryd.prog G0 en545' := evE_ok (N := 200) (n := 20) (by kernel_rfl) tok544 (by kernel_rfl)
def en545 : Entry := ⟨545, 54, [.s (.i .u8), .l (.i .i64) 5], .one (.s (.b)), fun _ xs => b2i (bitB (xs.getD 0 0) 5)⟩
theorem lem545 : ∀ xs, fits (allKs en545'.ps) xs → outsE en545'.fn xs 0 en545'.rs.ks = outsE en545.fn xs 0 en545.rs.ks := by
  intro xs hx
  replace hx : fits [.i .u8] xs := hx
  obtain ⟨a0, r0, rfl, h0, y0⟩ := fits_cons hx
  obtain rfl := fits_nil y0
  clear hx y0
  have q0 : 0 ≤ a0 ∧ a0 < 256 := rng8 h0
  refine outs_one ?_
  show fnOf T544 es545 0 [a0] = b2i (bitB a0 5)
  simp only [es545, fnOf, E.den, E.denL, binI, dvI, shI, cmpB, List.getD_cons_zero, List.getD_cons_succ, i2b_b2i, norm_b2i, h0]
  simp only [K.norm, wrap64u, Int.reduceMod]
  rw [← bit_eq a0 q0.1 5, Int.tmod_eq_emod_of_nonneg (by omega), Int.tdiv_eq_ediv_of_nonneg (by omega)]
  congr 2
  have := @Int.ediv_le_self a0 32 q0.1
  show _ = a0 / 32 % 2
  omega
theorem ok545 : EntryOK Tryd.prog G0 en545 := ok545'.congr lem545
def T545 : Tabs := en545 :: T544
theorem tok545 : TabsOK Tryd.prog G0 T545 := .cons ok545 tok544

def es546 : List E :=
  [(.cmp .eql (.dv .rem .u64 (.dv .quo .u64 (.conv .u64 (.var (.i .u8) 0)) 64) 2) (.lit (.i .u64) 1))]
def en546' : Entry := ⟨546, 54, [.s (.i .u8), .l (.i .i64) 6], .one (.s (.b)), fnOf T545 es546⟩
theorem ok546' : EntryOK Tryd.prog G0 en546' := evE_ok (N := 200) (n := 20) (by kernel_rfl) tok545 (by kernel_rfl)
def en546 : Entry := ⟨546, 54, [.s (.i .u8), .l (.i .i64) 6], .one (.s (.b)), fun _ xs => b2i (bitB (xs.getD 0 0) 6)⟩
theorem lem546 : ∀ xs, fits (allKs en546'.ps) xs → outsE en546'.fn xs 0 en546'.rs.ks = outsE en546.fn xs 0 en546.rs.ks := by
  intro xs hx
  replace hx : fits [.i .u8] xs := hx
  obtain ⟨a0, r0, rfl, h0, y0⟩ := fits_cons hx
  obtain rfl := fits_nil y0
  clear hx y0
  have q0 : 0 ≤ a0 ∧ a0 < 256 := rng8 h0
  refine outs_one ?_
  show fnOf T545 es546 0 [a0] = b2i (bitB a0 6)
  simp only [es546, fnOf, E.den, E.denL, binI, dvI, shI, cmpB, List.getD_cons_zero, List.getD_cons_succ, i2b_b2i, norm_b2i, h0]
  simp only [K.norm, wrap64u, Int.reduceMod]
  rw [← bit_eq a0 q0.1 6, Int.tmod_eq_emod_of_nonneg (by omega), Int.tdiv_eq_ediv_of_nonneg (by omega)]
  congr 2
  have := @Int.ediv_le_self a0 64 q0.1
  show _ = a0 / 64 % 2
  omega
theorem ok546 : EntryOK Tryd.prog G0 en546 := ok546'.congr lem546
def T546 : Tabs := en546 :: T545
theorem tok546 : TabsOK Tryd.prog G0 T546 := .cons ok546 tok545

def es547 : List E :=
  [(.cmp .eql (.dv .rem .u64 (.dv .quo .u64 (.conv .u64 (.var (.i .u8) 0)) 128) 2) (.lit (.i .u64) 1))]
def en547' : Entry := ⟨547, 54, [.s (.i .u8), .l (.i .i64) 7], .one (.s (.b)), fnOf T546 es547⟩
theorem ok547' : EntryOK Tryd.prog G0 en547' := evE_ok (N := 200) (n := 20) (by kernel_rfl) tok546 (by kernel_rfl)
def en547 : Entry := ⟨547, 54, [.s (.i .u8), .l (.i .i64) 7], .one (.s (.b)), fun _ xs => b2i (bitB (xs.getD 0 0) 7)⟩
theorem lem547 : ∀ xs, fits (allKs en547'.ps) xs → outsE en547'.fn xs 0 en547'.rs.ks = outsE en547.fn xs 0 en547.rs.ks := by
  intro xs hx
  replace hx : fits [.i .u8] xs := hx
  obtain ⟨a0, r0, rfl, h0, y0⟩ := fits_cons hx
  obtain rfl := fits_nil y0
  clear hx y0
  have q0 : 0 ≤ a0 ∧ a0 < 256 := rng8 h0
  refine outs_one ?_
  show fnOf T546 es547 0 [a0] = b2i (bitB a0 7)
  simp only [es547, fnOf, E.den, E.denL, binI, dvI, shI, cmpB, List.getD_cons_zero, List.getD_cons_succ, i2b_b2i, norm_b2i, h0]
  simp only [K.norm, wrap64u, Int.reduceMod]
  rw [← bit_eq a0 q0.1 7, Int.tmod_eq_emod_of_nonneg (by omega), Int.tdiv_eq_ediv_of_nonneg (by omega)]
  congr 2
  have := @Int.ediv_le_self a0 128 q0.1
  show _ = a0 / 128 % 2
  omega
theorem ok547 : EntryOK Tryd.prog G0 en547 := ok547'.congr lem547
def T547 : Tabs := en547 :: T546
theorem tok547 : TabsOK Tryd.prog G0 T547 := .cons ok547 tok546

def es53 : List E :=
  [(.ite (.not (.var .b 2)) (.and (.cmp .eql (.var (.i .u16) 0) (.lit (.i .u16) 0)) (.cmp .eql (.var (.i .u16) 1) (.lit (.i .u16) 65535))) (.cmp .leq (.var (.i .u16) 0) (.var (.i .u16) 1)))]
def en53' : Entry := ⟨53, 53, [.a [.i .u16, .i .u16], .s (.b)], .one (.s (.b)), fnOf T547 es53⟩
theorem ok53' : EntryOK Tryd.prog G0 en53' := evE_ok (N := 200) (n := 20) (by kernel_rfl) tok547 (by kernel_rfl)
def en53 : Entry := ⟨53, 53, [.a [.i .u16, .i .u16], .s (.b)], .one (.s (.b)), fun _ xs => b2i (rR (i2b (xs.getD 2 0)) (xs.getD 0 0) (xs.getD 1 0))⟩
theorem lem53 : ∀ xs, fits (allKs en53'.ps) xs → outsE en53'.fn xs 0 en53'.rs.ks = outsE en53.fn xs 0 en53.rs.ks := by
  intro xs hx
  replace hx : fits [.i .u16, .i .u16, .b] xs := hx
  obtain ⟨a0, r0, rfl, h0, y0⟩ := fits_cons hx
  obtain ⟨a1, r1, rfl, h1, y1⟩ := fits_cons y0
  obtain ⟨a2, r2, rfl, h2, y2⟩ := fits_cons y1
  obtain rfl := fits_nil y2
  clear hx y0 y1 y2
  refine outs_one ?_
  show fnOf T547 es53 0 [a0, a1, a2] = b2i (rR (i2b a2) a0 a1)
  simp only [es53, fnOf, E.den, E.denL, binI, dvI, shI, cmpB, List.getD_cons_zero, List.getD_cons_succ, i2b_b2i, norm_b2i, h0, h1, h2]
  simp only [K.norm, wrap16, Int.reduceMod, rR]
  cases i2b a2 <;> rfl
theorem ok53 : EntryOK Tryd.prog G0 en53 := ok53'.congr lem53
def T53 : Tabs := en53 :: T547
theorem tok53 : TabsOK Tryd.prog G0 T53 := .cons ok53 tok547

def es26 : List E :=
  [(.and (.not (.or (.cmp .gtr (.var (.i .u8) 0) (.lit (.i .u8) 2)) (.and (.and (.and (.cmp .neq (.var (.i .u8) 1) (.lit (.i .u8) 0)) (.cmp .neq (.var (.i .u8) 1) (.lit (.i .u8) 1))) (.cmp .neq (.var (.i .u8) 1) (.lit (.i .u8) 6))) (.cmp .neq
    (.var (.i .u8) 1) (.lit (.i .u8) 17))))) (.and (.not (.or (.or (.or (.not (.app .b 52 0 [(.var (.i .u32) 4), (.var (.i .u8) 5)])) (.not (.app .b 52 0 [(.var (.i .u32) 6), (.var (.i .u8) 7)]))) (.not (.app .b 53 0 [(.var (.i .u16) 8), (.var
    (.i .u16) 9), (.or (.cmp .eql (.var (.i .u8) 1) (.lit (.i .u8) 6)) (.cmp .eql (.var (.i .u8) 1) (.lit (.i .u8) 17)))]))) (.not (.app .b 53 0 [(.var (.i .u16) 10), (.var (.i .u16) 11), (.or (.cmp .eql (.var (.i .u8) 1) (.lit (.i .u8) 6))
    (.cmp .eql (.var (.i .u8) 1) (.lit (.i .u8) 17)))])))) (.and (.not (.or (.cmp .gtr (.var (.i .u8) 2) (.lit (.i .u8) 63)) (.and (.cmp .gtr (.var (.i .u8) 2) (.lit (.i .u8) 0)) (.cmp .neq (.var (.i .u8) 1) (.lit (.i .u8) 6))))) (.not (.or
    (.and (.app .b 540 0 [(.var (.i .u8) 3)]) (.not (.app .b 540 0 [(.var (.i .u8) 2)]))) (.and (.not (.and (.app .b 540 0 [(.var (.i .u8) 3)]) (.not (.app .b 540 0 [(.var (.i .u8) 2)])))) (.or (.and (.app .b 541 0 [(.var (.i .u8) 3)]) (.not
    (.app .b 541 0 [(.var (.i .u8) 2)]))) (.and (.not (.and (.app .b 541 0 [(.var (.i .u8) 3)]) (.not (.app .b 541 0 [(.var (.i .u8) 2)])))) (.or (.and (.app .b 542 0 [(.var (.i .u8) 3)]) (.not (.app .b 542 0 [(.var (.i .u8) 2)]))) (.and (.not
    (.and (.app .b 542 0 [(.var (.i .u8) 3)]) (.not (.app .b 542 0 [(.var (.i .u8) 2)])))) (.or (.and (.app .b 543 0 [(.var (.i .u8) 3)]) (.not (.app .b 543 0 [(.var (.i .u8) 2)]))) (.and (.not (.and (.app .b 543 0 [(.var (.i .u8) 3)]) (.not
    (.app .b 543 0 [(.var (.i .u8) 2)])))) (.or (.and (.app .b 544 0 [(.var (.i .u8) 3)]) (.not (.app .b 544 0 [(.var (.i .u8) 2)]))) (.and (.not (.and (.app .b 544 0 [(.var (.i .u8) 3)]) (.not (.app .b 544 0 [(.var (.i .u8) 2)])))) (.or (.and
    (.app .b 545 0 [(.var (.i .u8) 3)]) (.not (.app .b 545 0 [(.var (.i .u8) 2)]))) (.and (.not (.and (.app .b 545 0 [(.var (.i .u8) 3)]) (.not (.app .b 545 0 [(.var (.i .u8) 2)])))) (.or (.and (.app .b 546 0 [(.var (.i .u8) 3)]) (.not (.app .b
    546 0 [(.var (.i .u8) 2)]))) (.and (.not (.and (.app .b 546 0 [(.var (.i .u8) 3)]) (.not (.app .b 546 0 [(.var (.i .u8) 2)])))) (.and (.app .b 547 0 [(.var (.i .u8) 3)]) (.not (.app .b 547 0 [(.var (.i .u8) 2)])))))))))))))))))))))]
def en26' : Entry := ⟨26, 26, [.a ruleK], .one (.s (.b)), fnOf T53 es26⟩
theorem ok26' : EntryOK Tryd.prog G0 en26' := evE_ok (N := 200) (n := 20) (by kernel_rfl) tok53 (by kernel_rfl)
def en26 : Entry := ⟨26, 26, [.a ruleK], .one (.s (.b)), fun _ xs => b2i (rightS fun i => xs.getD i 0)⟩
theorem lem26 : ∀ xs, fits (allKs en26'.ps) xs → outsE en26'.fn xs 0 en26'.rs.ks = outsE en26.fn xs 0 en26.rs.ks := by
  intro xs hx
  replace hx : fits [.i .u8, .i .u8, .i .u8, .i .u8, .i .u32, .i .u8, .i .u32, .i .u8, .i .u16, .i .u16, .i .u16, .i .u16, .b] xs := hx
  obtain ⟨a0, r0, rfl, h0, y0⟩ := fits_cons hx
  obtain ⟨a1, r1, rfl, h1, y1⟩ := fits_cons y0
  obtain ⟨a2, r2, rfl, h2, y2⟩ := fits_cons y1
  obtain ⟨a3, r3, rfl, h3, y3⟩ := fits_cons y2
  obtain ⟨a4, r4, rfl, h4, y4⟩ := fits_cons y3
  obtain ⟨a5, r5, rfl, h5, y5⟩ := fits_cons y4
  obtain ⟨a6, r6, rfl, h6, y6⟩ := fits_cons y5
  obtain ⟨a7, r7, rfl, h7, y7⟩ := fits_cons y6
  obtain ⟨a8, r8, rfl, h8, y8⟩ := fits_cons y7
  obtain ⟨a9, r9, rfl, h9, y9⟩ := fits_cons y8
  obtain ⟨a10, r10, rfl, h10, y10⟩ := fits_cons y9
  obtain ⟨a11, r11, rfl, h11, y11⟩ := fits_cons y10
  obtain ⟨a12, r12, rfl, h12, y12⟩ := fits_cons y11
  obtain rfl := fits_nil y12
  clear hx y0 y1 y2 y3 y4 y5 y6 y7 y8 y9 y10 y11 y12
  have q0 : 0 ≤ a0 ∧ a0 < 256 := rng8 h0
  have q1 : 0 ≤ a1 ∧ a1 < 256 := rng8 h1
  have q2 : 0 ≤ a2 ∧ a2 < 256 := rng8 h2
  have q3 : 0 ≤ a3 ∧ a3 < 256 := rng8 h3
  have q4 : 0 ≤ a4 ∧ a4 < 4294967296 := rng32 h4
  have q5 : 0 ≤ a5 ∧ a5 < 256 := rng8 h5
  have q6 : 0 ≤ a6 ∧ a6 < 4294967296 := rng32 h6
  have q7 : 0 ≤ a7 ∧ a7 < 256 := rng8 h7
  have q8 : 0 ≤ a8 ∧ a8 < 65536 := rng16 h8
  have q9 : 0 ≤ a9 ∧ a9 < 65536 := rng16 h9
  have q10 : 0 ≤ a10 ∧ a10 < 65536 := rng16 h10
  have q11 : 0 ≤ a11 ∧ a11 < 65536 := rng16 h11
  refine outs_one ?_
  show fnOf T53 es26 0 [a0, a1, a2, a3, a4, a5, a6, a7, a8, a9, a10, a11, a12] = b2i (rightS fun i => [a0, a1, a2, a3, a4, a5, a6, a7, a8, a9, a10, a11, a12].getD i 0)
  have F52 : ∀ xs, T53.F 52 0 xs = b2i (pR (xs.getD 0 0) (xs.getD 1 0)) := fun _ => rfl
  have F53 : ∀ xs, T53.F 53 0 xs = b2i (rR (i2b (xs.getD 2 0)) (xs.getD 0 0) (xs.getD 1 0)) := fun _ => rfl
  have B0 : ∀ xs, T53.F 540 0 xs = b2i (bitB (xs.getD 0 0) 0) := fun _ => rfl
  have B1 : ∀ xs, T53.F 541 0 xs = b2i (bitB (xs.getD 0 0) 1) := fun _ => rfl
  have B2 : ∀ xs, T53.F 542 0 xs = b2i (bitB (xs.getD 0 0) 2) := fun _ => rfl
  have B3 : ∀ xs, T53.F 543 0 xs = b2i (bitB (xs.getD 0 0) 3) := fun _ => rfl
  have B4 : ∀ xs, T53.F 544 0 xs = b2i (bitB (xs.getD 0 0) 4) := fun _ => rfl
  have B5 : ∀ xs, T53.F 545 0 xs = b2i (bitB (xs.getD 0 0) 5) := fun _ => rfl
  have B6 : ∀ xs, T53.F 546 0 xs = b2i (bitB (xs.getD 0 0) 6) := fun _ => rfl
  have B7 : ∀ xs, T53.F 547 0 xs = b2i (bitB (xs.getD 0 0) 7) := fun _ => rfl
  simp only [es26, fnOf, E.den, E.denL, binI, dvI, shI, cmpB, List.getD_cons_zero, List.getD_cons_succ, i2b_b2i, norm_b2i, F52, F53, B0, B1, B2, B3, B4, B5, B6, B7, h0, h1, h2, h3, h4, h5, h6, h7, h8, h9, h10, h11, h12]
  simp only [rightS, List.getD_cons_zero, List.getD_cons_succ, K.norm, wrap8, Int.reduceMod]
  congr 1
  generalize (pR a4 a5) = p0
  generalize (pR a6 a7) = p1
  generalize (rR (a1 == 6 || a1 == 17) a8 a9) = p2
  generalize (rR (a1 == 6 || a1 == 17) a10 a11) = p3
  have hs := sub8_not a3 a2 q2
  generalize sub8 a3 a2 = sb at hs ⊢
  simp only [orn]
  generalize (bitB a3 0 && !bitB a2 0) = c0 at hs ⊢
  generalize (bitB a3 1 && !bitB a2 1) = c1 at hs ⊢
  generalize (bitB a3 2 && !bitB a2 2) = c2 at hs ⊢
  generalize (bitB a3 3 && !bitB a2 3) = c3 at hs ⊢
  generalize (bitB a3 4 && !bitB a2 4) = c4 at hs ⊢
  generalize (bitB a3 5 && !bitB a2 5) = c5 at hs ⊢
  generalize (bitB a3 6 && !bitB a2 6) = c6 at hs ⊢
  generalize (bitB a3 7 && !bitB a2 7) = c7 at hs ⊢
  subst hs
  have e4 : (decide (a2 > 0)) = !(a2 == 0) := by
    rw [Bool.eq_iff_iff]; simp; omega
  rw [e4]
  grind
theorem ok26 : EntryOK Tryd.prog G0 en26 := ok26'.congr lem26
def T26 : Tabs := en26 :: T53
theorem tok26 : TabsOK Tryd.prog G0 T26 := .cons ok26 tok53

end Go.Proofs.YtbolcnlenmphhaaDoor
