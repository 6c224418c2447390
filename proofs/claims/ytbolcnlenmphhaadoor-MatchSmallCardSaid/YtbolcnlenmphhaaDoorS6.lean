/- Layer 26: summaries of the functions, sixth part: Sample, Apart, MatchPairs. Printed by a program from the evaluator's own output; the lemmas by hand. -/
import Derived.Test.YtbolcnlenmphhaaDoorS5
import Derived.Test.YtbolcnlenmphhaaDoorFu
set_option linter.unusedVariables false
set_option linter.unusedSimpArgs false
namespace Go.Proofs.YtbolcnlenmphhaaDoor
open Go Go.RowKit Ev

def c42x0 : List E :=
  [(.var (.i .u8) 0), (.var (.i .u8) 1), (.var (.i .u8) 2), (.var (.i .u8) 3), (.var (.i .u32) 4), (.var (.i .u8) 5), (.var (.i .u32) 6), (.var (.i .u8) 7), (.var (.i .u16) 8), (.var (.i .u16) 9), (.var (.i .u16) 10), (.var (.i .u16) 11),
    (.var .b 12)]
def es42 : List E :=
  [(.bin .or .u32 (.app (.i .u32) 30 0 c42x0) (.app (.i .u32) 30 3 c42x0)), (.ite (.cmp .eql (.var (.i .u8) 1) (.lit (.i .u8) 0)) (.lit (.i .u32) 1) (.bin .or .u32 (.app (.i .u32) 30 4 c42x0) (.app (.i .u32) 30 7 c42x0))), (.bin .or .u32
    (.app (.i .u32) 30 8 c42x0) (.app (.i .u32) 30 11 c42x0)), (.bin .or .u32 (.app (.i .u32) 30 12 c42x0) (.app (.i .u32) 30 15 c42x0)), (.bin .or .u32 (.app (.i .u32) 30 16 c42x0) (.app (.i .u32) 30 19 c42x0)), (.bin .or .u32 (.app (.i .u32)
    30 20 c42x0) (.app (.i .u32) 30 23 c42x0)), (.bin .or .u32 (.app (.i .u32) 30 24 c42x0) (.app (.i .u32) 30 27 c42x0))]
def en42' : Entry := ⟨42, 42, [.a ruleK], .one (.a valuesK), fnOf T45 es42⟩
theorem ok42' : EntryOK Tryd.prog G0 en42' := evE_ok (N := 200) (n := 20) (by kernel_rfl) tok45 (by kernel_rfl)
def en42 : Entry := ⟨42, 42, [.a ruleK], .one (.a valuesK), fun j xs => leastF (fun i => xs.getD i 0) j⟩
theorem lem42 : ∀ xs, fits (allKs en42'.ps) xs → outsE en42'.fn xs 0 en42'.rs.ks = outsE en42.fn xs 0 en42.rs.ks := by
  intro xs hx
  replace hx : fits [.i .u8, .i .u8, .i .u8, .i .u8, .i .u32, .i .u8, .i .u32, .i .u8, .i .u16, .i .u16, .i .u16, .i .u16, .b] xs := hx
  obtain ⟨a0, r0, rfl, h0, y0⟩ := fits_cons hx
  obtain ⟨a1, r1, rfl, h1, y1⟩ := fits_cons y0
  obtain ⟨a2, r2, rfl, h2, y2⟩ := fits_cons y1
  obtain ⟨a3, r3, rfl, h3, y3⟩ := fits_cons y2
  obtain ⟨a4, r4, rfl, h4, y4⟩ := fits_cons y3
  obtain ⟨a5, r5, rfl, h5, y5⟩ := fits_cons y4
  obtain ⟨a6, r6, rfl, h6, y6⟩ := fits_cons y5
  obtain ⟨a7, r7, rfl, h7, y7⟩ := fits_cons y6
  obtain ⟨a8, r8, rfl, h8, y8⟩ := fits_cons y7
  obtain ⟨a9, r9, rfl, h9, y9⟩ := fits_cons y8
  obtain ⟨a10, r10, rfl, h10, y10⟩ := fits_cons y9
  obtain ⟨a11, r11, rfl, h11, y11⟩ := fits_cons y10
  obtain ⟨a12, r12, rfl, h12, y12⟩ := fits_cons y11
  obtain rfl := fits_nil y12
  clear hx y0 y1 y2 y3 y4 y5 y6 y7 y8 y9 y10 y11 y12
  have q0 : 0 ≤ a0 ∧ a0 < 256 := rng8 h0
  have q1 : 0 ≤ a1 ∧ a1 < 256 := rng8 h1
  have q2 : 0 ≤ a2 ∧ a2 < 256 := rng8 h2
  have q3 : 0 ≤ a3 ∧ a3 < 256 := rng8 h3
  have q4 : 0 ≤ a4 ∧ a4 < 4294967296 := rng32 h4
  have q5 : 0 ≤ a5 ∧ a5 < 256 := rng8 h5
  have q6 : 0 ≤ a6 ∧ a6 < 4294967296 := rng32 h6
  have q7 : 0 ≤ a7 ∧ a7 < 256 := rng8 h7
  have q8 : 0 ≤ a8 ∧ a8 < 65536 := rng16 h8
  have q9 : 0 ≤ a9 ∧ a9 < 65536 := rng16 h9
  have q10 : 0 ≤ a10 ∧ a10 < 65536 := rng16 h10
  have q11 : 0 ≤ a11 ∧ a11 < 65536 := rng16 h11
  obtain ⟨A, eA⟩ : ∃ A : Nat → Int, A = fun i => [a0, a1, a2, a3, a4, a5, a6, a7, a8, a9, a10, a11, a12].getD i 0 := ⟨_, rfl⟩
  have hA : RuleIn A := by rw [eA]; exact rule1 q0 q1 q2 q3 q4 q5 q6 q7 q8 q9 q10 q11
  show outsE (fnOf T45 es42) [a0, a1, a2, a3, a4, a5, a6, a7, a8, a9, a10, a11, a12] 0 valuesK = outsE (fun j xs => leastF (fun i => [a0, a1, a2, a3, a4, a5, a6, a7, a8, a9, a10, a11, a12].getD i 0) j) [a0, a1, a2, a3, a4, a5, a6, a7, a8, a9, a10, a11, a12] 0 valuesK
  rw [← eA]
  have F30 : ∀ j, T45.F 30 j [a0, a1, a2, a3, a4, a5, a6, a7, a8, a9, a10, a11, a12] = fieldsF A j := fun j => by rw [eA]; rfl
  have e1 : a1 = A 1 := by rw [eA]; rfl
  simp only [outsE, valuesK, es42, c42x0, fnOf, E.den, E.denL, binI, dvI, shI, cmpB, List.getD_cons_zero, List.getD_cons_succ, i2b_b2i, norm_b2i, F30, h0, h1, h2, h3, h4, h5, h6, h7, h8, h9, h10, h11, h12, Nat.zero_add, Nat.reduceAdd, fieldsF_norm hA]
  have b0 := hA.b0
  have b1 := hA.b1
  have b3 := hA.b3
  have b8 := hA.b8
  have b10 := hA.b10
  have f0 := fieldsF_in hA 0
  have f4 := fieldsF_in hA 4
  have k1 : bitsI .or .u32 (fieldsF A 0) (fieldsF A 3) = leastF A 0 := or0 _ f0
  have k2 : (bif A 1 == K.norm (.i .u8) 0 then K.norm (.i .u32) 1 else bitsI .or .u32 (fieldsF A 4) (fieldsF A 7)) = leastF A 1 := by
    have : bitsI .or .u32 (fieldsF A 4) (fieldsF A 7) = (bif A 1 == 0 then 0 else A 1) := or0 _ f4
    rw [this]
    show (bif A 1 == 0 then 1 else _) = (bif A 1 == 0 then 1 else A 1)
    cases A 1 == 0 <;> rfl
  have k3 : bitsI .or .u32 (fieldsF A 8) (fieldsF A 11) = leastF A 2 := or0 _ hA.b4
  have k4 : bitsI .or .u32 (fieldsF A 12) (fieldsF A 15) = leastF A 3 := or0 _ hA.b6
  have k5 : bitsI .or .u32 (fieldsF A 16) (fieldsF A 19) = leastF A 4 := or0 _ (by show 0 ≤ A 8 ∧ A 8 < 4294967296; omega)
  have k6 : bitsI .or .u32 (fieldsF A 20) (fieldsF A 23) = leastF A 5 := or0 _ (by show 0 ≤ A 10 ∧ A 10 < 4294967296; omega)
  have k7 : bitsI .or .u32 (fieldsF A 24) (fieldsF A 27) = leastF A 6 := zor _ (by show 0 ≤ A 3 ∧ A 3 < 4294967296; omega)
  rw [e1, k1, k2, k3, k4, k5, k6, k7]
theorem ok42 : EntryOK Tryd.prog G0 en42 := ok42'.congr lem42
def T42 : Tabs := en42 :: T45
theorem tok42 : TabsOK Tryd.prog G0 T42 := .cons ok42 tok45

def es41 : List E :=
  [(.conv .u8 (.var (.i .u32) 0)), (.conv .u8 (.var (.i .u32) 1)), (.var (.i .u32) 2), (.var (.i .u32) 3), (.conv .u16 (.var (.i .u32) 4)), (.conv .u16 (.var (.i .u32) 5)), (.ite (.cmp .eql (.conv .u8 (.var (.i .u32) 1)) (.lit (.i .u8) 6))
    (.lit (.i .u8) 1) (.ite (.cmp .eql (.conv .u8 (.var (.i .u32) 1)) (.lit (.i .u8) 17)) (.lit (.i .u8) 2) (.lit (.i .u8) 3))), (.ite (.cmp .eql (.conv .u8 (.var (.i .u32) 1)) (.lit (.i .u8) 6)) (.conv .u8 (.var (.i .u32) 6)) (.lit (.i .u8)
    0)), (.lit (.i .u8) 0), (.lit (.i .u8) 0), (.lit (.i .u32) 0), (.lit (.i .u32) 0), (.lit (.i .i64) 0), (.lit (.i .i64) 0), (.lit (.i .u8) 0), (.lit (.i .u32) 0), (.lit (.i .u32) 0), (.lit (.i .u16) 0), (.lit (.i .u16) 0), (.lit (.i .u8) 0)]
def en41' : Entry := ⟨41, 41, [.a valuesK], .tup [.s (.i .u8), .a factsK], fnOf T42 es41⟩
theorem ok41' : EntryOK Tryd.prog G0 en41' := evE_ok (N := 200) (n := 20) (by kernel_rfl) tok42 (by kernel_rfl)
def en41 : Entry := ⟨41, 41, [.a valuesK], .tup [.s (.i .u8), .a factsK], fun j xs => packF (fun i => xs.getD i 0) j⟩
theorem lem41 : ∀ xs, fits (allKs en41'.ps) xs → outsE en41'.fn xs 0 en41'.rs.ks = outsE en41.fn xs 0 en41.rs.ks := by
  intro xs hx
  replace hx : fits [.i .u32, .i .u32, .i .u32, .i .u32, .i .u32, .i .u32, .i .u32] xs := hx
  obtain ⟨a0, r0, rfl, h0, y0⟩ := fits_cons hx
  obtain ⟨a1, r1, rfl, h1, y1⟩ := fits_cons y0
  obtain ⟨a2, r2, rfl, h2, y2⟩ := fits_cons y1
  obtain ⟨a3, r3, rfl, h3, y3⟩ := fits_cons y2
  obtain ⟨a4, r4, rfl, h4, y4⟩ := fits_cons y3
  obtain ⟨a5, r5, rfl, h5, y5⟩ := fits_cons y4
  obtain ⟨a6, r6, rfl, h6, y6⟩ := fits_cons y5
  obtain rfl := fits_nil y6
  clear hx y0 y1 y2 y3 y4 y5 y6
  show outsE (fnOf T42 es41) [a0, a1, a2, a3, a4, a5, a6] 0 [.i .u8, .i .u8, .i .u32, .i .u32, .i .u16, .i .u16, .i .u8, .i .u8, .i .u8, .i .u8, .i .u32, .i .u32, .i .i64, .i .i64, .i .u8, .i .u32, .i .u32, .i .u16, .i .u16, .i .u8] = outsE (fun j xs => packF (fun i => xs.getD i 0) j) [a0, a1, a2, a3, a4, a5, a6] 0 [.i .u8, .i .u8, .i .u32, .i .u32, .i .u16, .i .u16, .i .u8, .i .u8, .i .u8, .i .u8, .i .u32, .i .u32, .i .i64, .i .i64, .i .u8, .i .u32, .i .u32, .i .u16, .i .u16, .i .u8]
  simp only [outsE, es41, fnOf, E.den, E.denL, binI, dvI, shI, cmpB, List.getD_cons_zero, List.getD_cons_succ, i2b_b2i, norm_b2i, h0, h1, h2, h3, h4, h5, h6, Nat.zero_add, Nat.reduceAdd]
  have e2 : K.norm (.i .u32) (packF (fun i => [a0, a1, a2, a3, a4, a5, a6].getD i 0) 2) = a2 := h2
  have e3 : K.norm (.i .u32) (packF (fun i => [a0, a1, a2, a3, a4, a5, a6].getD i 0) 3) = a3 := h3
  rw [e2, e3]
  rfl
theorem ok41 : EntryOK Tryd.prog G0 en41 := ok41'.congr lem41
def T41 : Tabs := en41 :: T42
theorem tok41 : TabsOK Tryd.prog G0 T41 := .cons ok41 tok42

def c19x0 : List E :=
  [(.var (.i .u8) 0), (.var (.i .u8) 1), (.var (.i .u8) 2), (.var (.i .u8) 3), (.var (.i .u32) 4), (.var (.i .u8) 5), (.var (.i .u32) 6), (.var (.i .u8) 7), (.var (.i .u16) 8), (.var (.i .u16) 9), (.var (.i .u16) 10), (.var (.i .u16) 11),
    (.var .b 12)]
def c19x1 : List E :=
  [(.app (.i .u32) 42 0 c19x0), (.app (.i .u32) 42 1 c19x0), (.app (.i .u32) 42 2 c19x0), (.app (.i .u32) 42 3 c19x0), (.app (.i .u32) 42 4 c19x0), (.app (.i .u32) 42 5 c19x0), (.app (.i .u32) 42 6 c19x0)]
def es19 : List E :=
  [(.ite (.not (.app .b 17 0 c19x0)) (.lit (.i .u8) 0) (.app (.i .u8) 41 0 c19x1)), (.ite (.not (.app .b 17 0 c19x0)) (.lit (.i .u8) 0) (.app (.i .u8) 41 1 c19x1)), (.ite (.not (.app .b 17 0 c19x0)) (.lit (.i .u32) 0) (.app (.i .u32) 41 2
    c19x1)), (.ite (.not (.app .b 17 0 c19x0)) (.lit (.i .u32) 0) (.app (.i .u32) 41 3 c19x1)), (.ite (.not (.app .b 17 0 c19x0)) (.lit (.i .u16) 0) (.app (.i .u16) 41 4 c19x1)), (.ite (.not (.app .b 17 0 c19x0)) (.lit (.i .u16) 0) (.app (.i
    .u16) 41 5 c19x1)), (.ite (.not (.app .b 17 0 c19x0)) (.lit (.i .u8) 0) (.app (.i .u8) 41 6 c19x1)), (.ite (.not (.app .b 17 0 c19x0)) (.lit (.i .u8) 0) (.app (.i .u8) 41 7 c19x1)), (.ite (.not (.app .b 17 0 c19x0)) (.lit (.i .u8) 0) (.app
    (.i .u8) 41 8 c19x1)), (.ite (.not (.app .b 17 0 c19x0)) (.lit (.i .u8) 0) (.app (.i .u8) 41 9 c19x1)), (.ite (.not (.app .b 17 0 c19x0)) (.lit (.i .u32) 0) (.app (.i .u32) 41 10 c19x1)), (.ite (.not (.app .b 17 0 c19x0)) (.lit (.i .u32) 0)
    (.app (.i .u32) 41 11 c19x1)), (.ite (.not (.app .b 17 0 c19x0)) (.lit (.i .i64) 0) (.app (.i .i64) 41 12 c19x1)), (.ite (.not (.app .b 17 0 c19x0)) (.lit (.i .i64) 0) (.app (.i .i64) 41 13 c19x1)), (.ite (.not (.app .b 17 0 c19x0)) (.lit
    (.i .u8) 0) (.app (.i .u8) 41 14 c19x1)), (.ite (.not (.app .b 17 0 c19x0)) (.lit (.i .u32) 0) (.app (.i .u32) 41 15 c19x1)), (.ite (.not (.app .b 17 0 c19x0)) (.lit (.i .u32) 0) (.app (.i .u32) 41 16 c19x1)), (.ite (.not (.app .b 17 0
    c19x0)) (.lit (.i .u16) 0) (.app (.i .u16) 41 17 c19x1)), (.ite (.not (.app .b 17 0 c19x0)) (.lit (.i .u16) 0) (.app (.i .u16) 41 18 c19x1)), (.ite (.not (.app .b 17 0 c19x0)) (.lit (.i .u8) 0) (.app (.i .u8) 41 19 c19x1)), (.ite (.not
    (.app .b 17 0 c19x0)) (.lit (.i .i64) 260) (.lit (.i .i64) 0))]
def en19' : Entry := ⟨19, 19, [.a ruleK], .tup [.s (.i .u8), .a factsK, .s (.i .i64)], fnOf T41 es19⟩
theorem ok19' : EntryOK Tryd.prog G0 en19' := evE_ok (N := 200) (n := 20) (by kernel_rfl) tok41 (by kernel_rfl)
def en19 : Entry := ⟨19, 19, [.a ruleK], .tup [.s (.i .u8), .a factsK, .s (.i .i64)], fun j xs => samO (fun i => xs.getD i 0) j⟩
theorem lem19 : ∀ xs, fits (allKs en19'.ps) xs → outsE en19'.fn xs 0 en19'.rs.ks = outsE en19.fn xs 0 en19.rs.ks := by
  intro xs hx
  replace hx : fits [.i .u8, .i .u8, .i .u8, .i .u8, .i .u32, .i .u8, .i .u32, .i .u8, .i .u16, .i .u16, .i .u16, .i .u16, .b] xs := hx
  obtain ⟨a0, r0, rfl, h0, y0⟩ := fits_cons hx
  obtain ⟨a1, r1, rfl, h1, y1⟩ := fits_cons y0
  obtain ⟨a2, r2, rfl, h2, y2⟩ := fits_cons y1
  obtain ⟨a3, r3, rfl, h3, y3⟩ := fits_cons y2
  obtain ⟨a4, r4, rfl, h4, y4⟩ := fits_cons y3
  obtain ⟨a5, r5, rfl, h5, y5⟩ := fits_cons y4
  obtain ⟨a6, r6, rfl, h6, y6⟩ := fits_cons y5
  obtain ⟨a7, r7, rfl, h7, y7⟩ := fits_cons y6
  obtain ⟨a8, r8, rfl, h8, y8⟩ := fits_cons y7
  obtain ⟨a9, r9, rfl, h9, y9⟩ := fits_cons y8
  obtain ⟨a10, r10, rfl, h10, y10⟩ := fits_cons y9
  obtain ⟨a11, r11, rfl, h11, y11⟩ := fits_cons y10
  obtain ⟨a12, r12, rfl, h12, y12⟩ := fits_cons y11
  obtain rfl := fits_nil y12
  clear hx y0 y1 y2 y3 y4 y5 y6 y7 y8 y9 y10 y11 y12
  have q0 : 0 ≤ a0 ∧ a0 < 256 := rng8 h0
  have q1 : 0 ≤ a1 ∧ a1 < 256 := rng8 h1
  have q2 : 0 ≤ a2 ∧ a2 < 256 := rng8 h2
  have q3 : 0 ≤ a3 ∧ a3 < 256 := rng8 h3
  have q4 : 0 ≤ a4 ∧ a4 < 4294967296 := rng32 h4
  have q5 : 0 ≤ a5 ∧ a5 < 256 := rng8 h5
  have q6 : 0 ≤ a6 ∧ a6 < 4294967296 := rng32 h6
  have q7 : 0 ≤ a7 ∧ a7 < 256 := rng8 h7
  have q8 : 0 ≤ a8 ∧ a8 < 65536 := rng16 h8
  have q9 : 0 ≤ a9 ∧ a9 < 65536 := rng16 h9
  have q10 : 0 ≤ a10 ∧ a10 < 65536 := rng16 h10
  have q11 : 0 ≤ a11 ∧ a11 < 65536 := rng16 h11
  obtain ⟨A, eA⟩ : ∃ A : Nat → Int, A = fun i => [a0, a1, a2, a3, a4, a5, a6, a7, a8, a9, a10, a11, a12].getD i 0 := ⟨_, rfl⟩
  have hA : RuleIn A := by rw [eA]; exact rule1 q0 q1 q2 q3 q4 q5 q6 q7 q8 q9 q10 q11
  show outsE (fnOf T41 es19) [a0, a1, a2, a3, a4, a5, a6, a7, a8, a9, a10, a11, a12] 0 [.i .u8, .i .u8, .i .u32, .i .u32, .i .u16, .i .u16, .i .u8, .i .u8, .i .u8, .i .u8, .i .u32, .i .u32, .i .i64, .i .i64, .i .u8, .i .u32, .i .u32, .i .u16, .i .u16, .i .u8, .i .i64] = outsE (fun j xs => samO (fun i => [a0, a1, a2, a3, a4, a5, a6, a7, a8, a9, a10, a11, a12].getD i 0) j) [a0, a1, a2, a3, a4, a5, a6, a7, a8, a9, a10, a11, a12] 0 [.i .u8, .i .u8, .i .u32, .i .u32, .i .u16, .i .u16, .i .u8, .i .u8, .i .u8, .i .u8, .i .u32, .i .u32, .i .i64, .i .i64, .i .u8, .i .u32, .i .u32, .i .u16, .i .u16, .i .u8, .i .i64]
  rw [← eA]
  have F17 : T41.F 17 0 [a0, a1, a2, a3, a4, a5, a6, a7, a8, a9, a10, a11, a12] = b2i (rightS A) := by rw [eA]; rfl
  have F42 : ∀ j, T41.F 42 j [a0, a1, a2, a3, a4, a5, a6, a7, a8, a9, a10, a11, a12] = leastF A j := fun j => by rw [eA]; rfl
  have F41 : ∀ j xs, T41.F 41 j xs = packF (fun i => xs.getD i 0) j := fun j xs => rfl
  simp only [outsE, es19, c19x0, c19x1, fnOf, E.den, E.denL, binI, dvI, shI, cmpB, List.getD_cons_zero, List.getD_cons_succ, i2b_b2i, norm_b2i, F17, F42, F41, h0, h1, h2, h3, h4, h5, h6, h7, h8, h9, h10, h11, h12, Nat.zero_add, Nat.reduceAdd, nrm32 (leastF_in hA _)]
  have hp : ∀ j, packF (fun i => [leastF A 0, leastF A 1, leastF A 2, leastF A 3, leastF A 4, leastF A 5, leastF A 6].getD i 0) j = packF (leastF A) j := packF_congr fun i hi => by
    match i, hi with
    | 0, _ => rfl
    | 1, _ => rfl
    | 2, _ => rfl
    | 3, _ => rfl
    | 4, _ => rfl
    | 5, _ => rfl
    | 6, _ => rfl
  simp only [hp]
  unfold samO
  cases rightS A
  · rfl
  · simp only [Bool.not_true, cond_true, cond_false]
    have p2 : K.norm (.i .u32) (packF (leastF A) 2) = packF (leastF A) 2 := nrm32 (leastF_in hA 2)
    have p3 : K.norm (.i .u32) (packF (leastF A) 3) = packF (leastF A) 3 := nrm32 (leastF_in hA 3)
    simp only [K.norm_norm]
    rfl
theorem ok19 : EntryOK Tryd.prog G0 en19 := ok19'.congr lem19
def T19 : Tabs := en19 :: T41
theorem tok19 : TabsOK Tryd.prog G0 T19 := .cons ok19 tok41

def es43 : List E :=
  [(.ite (.or (.cmp .lss (.var (.i .u32) 0) (.var (.i .u32) 4)) (.cmp .gtr (.var (.i .u32) 1) (.var (.i .u32) 5))) (.ite (.cmp .lss (.var (.i .u32) 0) (.var (.i .u32) 4)) (.var (.i .u32) 0) (.var (.i .u32) 1)) (.bin .or .u32 (.var (.i .u32)
    3) (.bin .and .u32 (.bin .andNot .u32 (.bin .andNot .u32 (.var (.i .u32) 6) (.var (.i .u32) 2)) (.var (.i .u32) 7)) (.bin .sub .u32 (.lit (.i .u32) 0) (.bin .andNot .u32 (.bin .andNot .u32 (.var (.i .u32) 6) (.var (.i .u32) 2)) (.var (.i
    .u32) 7))))))]
def en43' : Entry := ⟨43, 43, [.a [.i .u32, .i .u32, .i .u32, .i .u32], .a [.i .u32, .i .u32, .i .u32, .i .u32]], .one (.s (.i .u32)), fnOf T19 es43⟩
theorem ok43' : EntryOK Tryd.prog G0 en43' := evE_ok (N := 200) (n := 20) (by kernel_rfl) tok19 (by kernel_rfl)
def en43 : Entry := ⟨43, 43, [.a [.i .u32, .i .u32, .i .u32, .i .u32], .a [.i .u32, .i .u32, .i .u32, .i .u32]], .one (.s (.i .u32)), fun _ xs => otherB (xs.getD 0 0) (xs.getD 1 0) (xs.getD 2 0) (xs.getD 3 0) (xs.getD 4 0) (xs.getD 5 0) (xs.getD 6 0) (xs.getD 7 0)⟩
theorem lem43 : ∀ xs, fits (allKs en43'.ps) xs → outsE en43'.fn xs 0 en43'.rs.ks = outsE en43.fn xs 0 en43.rs.ks := by
  intro xs hx
  replace hx : fits [.i .u32, .i .u32, .i .u32, .i .u32, .i .u32, .i .u32, .i .u32, .i .u32] xs := hx
  obtain ⟨a0, r0, rfl, h0, y0⟩ := fits_cons hx
  obtain ⟨a1, r1, rfl, h1, y1⟩ := fits_cons y0
  obtain ⟨a2, r2, rfl, h2, y2⟩ := fits_cons y1
  obtain ⟨a3, r3, rfl, h3, y3⟩ := fits_cons y2
  obtain ⟨a4, r4, rfl, h4, y4⟩ := fits_cons y3
  obtain ⟨a5, r5, rfl, h5, y5⟩ := fits_cons y4
  obtain ⟨a6, r6, rfl, h6, y6⟩ := fits_cons y5
  obtain ⟨a7, r7, rfl, h7, y7⟩ := fits_cons y6
  obtain rfl := fits_nil y7
  clear hx y0 y1 y2 y3 y4 y5 y6 y7
  refine outs_one ?_
  show fnOf T19 es43 0 [a0, a1, a2, a3, a4, a5, a6, a7] = otherB a0 a1 a2 a3 a4 a5 a6 a7
  simp only [es43, fnOf, E.den, E.denL, binI, dvI, shI, cmpB, List.getD_cons_zero, List.getD_cons_succ, i2b_b2i, norm_b2i, h0, h1, h2, h3, h4, h5, h6, h7]
  rfl
theorem ok43 : EntryOK Tryd.prog G0 en43 := ok43'.congr lem43
def T43 : Tabs := en43 :: T19
theorem tok43 : TabsOK Tryd.prog G0 T43 := .cons ok43 tok19

def c20x0 : List E :=
  [(.var (.i .u8) 0), (.var (.i .u8) 1), (.var (.i .u8) 2), (.var (.i .u8) 3), (.var (.i .u32) 4), (.var (.i .u8) 5), (.var (.i .u32) 6), (.var (.i .u8) 7), (.var (.i .u16) 8), (.var (.i .u16) 9), (.var (.i .u16) 10), (.var (.i .u16) 11),
    (.var .b 12)]
def c20x1 : List E :=
  [(.var (.i .u8) 13), (.var (.i .u8) 14), (.var (.i .u8) 15), (.var (.i .u8) 16), (.var (.i .u32) 17), (.var (.i .u8) 18), (.var (.i .u32) 19), (.var (.i .u8) 20), (.var (.i .u16) 21), (.var (.i .u16) 22), (.var (.i .u16) 23), (.var (.i
    .u16) 24), (.var .b 25)]
def c20x2 : List E :=
  [(.app (.i .u32) 30 0 c20x0), (.app (.i .u32) 30 1 c20x0), (.app (.i .u32) 30 2 c20x0), (.app (.i .u32) 30 3 c20x0), (.app (.i .u32) 30 0 c20x1), (.app (.i .u32) 30 1 c20x1), (.app (.i .u32) 30 2 c20x1), (.app (.i .u32) 30 3 c20x1)]
def c20x3 : List E :=
  [(.app (.i .u32) 30 4 c20x0), (.app (.i .u32) 30 5 c20x0), (.app (.i .u32) 30 6 c20x0), (.app (.i .u32) 30 7 c20x0), (.app (.i .u32) 30 4 c20x1), (.app (.i .u32) 30 5 c20x1), (.app (.i .u32) 30 6 c20x1), (.app (.i .u32) 30 7 c20x1)]
def c20x4 : List E :=
  [(.app (.i .u32) 30 8 c20x0), (.app (.i .u32) 30 9 c20x0), (.app (.i .u32) 30 10 c20x0), (.app (.i .u32) 30 11 c20x0), (.app (.i .u32) 30 8 c20x1), (.app (.i .u32) 30 9 c20x1), (.app (.i .u32) 30 10 c20x1), (.app (.i .u32) 30 11 c20x1)]
def c20x5 : List E :=
  [(.app (.i .u32) 30 12 c20x0), (.app (.i .u32) 30 13 c20x0), (.app (.i .u32) 30 14 c20x0), (.app (.i .u32) 30 15 c20x0), (.app (.i .u32) 30 12 c20x1), (.app (.i .u32) 30 13 c20x1), (.app (.i .u32) 30 14 c20x1), (.app (.i .u32) 30 15 c20x1)]
def c20x6 : List E :=
  [(.app (.i .u32) 30 16 c20x0), (.app (.i .u32) 30 17 c20x0), (.app (.i .u32) 30 18 c20x0), (.app (.i .u32) 30 19 c20x0), (.app (.i .u32) 30 16 c20x1), (.app (.i .u32) 30 17 c20x1), (.app (.i .u32) 30 18 c20x1), (.app (.i .u32) 30 19 c20x1)]
def c20x7 : List E :=
  [(.app (.i .u32) 30 20 c20x0), (.app (.i .u32) 30 21 c20x0), (.app (.i .u32) 30 22 c20x0), (.app (.i .u32) 30 23 c20x0), (.app (.i .u32) 30 20 c20x1), (.app (.i .u32) 30 21 c20x1), (.app (.i .u32) 30 22 c20x1), (.app (.i .u32) 30 23 c20x1)]
def c20x8 : List E :=
  [(.app (.i .u32) 30 24 c20x0), (.app (.i .u32) 30 25 c20x0), (.app (.i .u32) 30 26 c20x0), (.app (.i .u32) 30 27 c20x0), (.app (.i .u32) 30 24 c20x1), (.app (.i .u32) 30 25 c20x1), (.app (.i .u32) 30 26 c20x1), (.app (.i .u32) 30 27 c20x1)]
def c20x9 : E :=
  (.or (.not (.app .b 31 0 c20x6)) (.and (.app .b 31 0 c20x6) (.or (.not (.app .b 31 0 c20x7)) (.and (.app .b 31 0 c20x7) (.not (.app .b 31 0 c20x8))))))
def c20x10 : E :=
  (.and (.app .b 31 0 c20x3) (.or (.not (.app .b 31 0 c20x4)) (.and (.app .b 31 0 c20x4) (.or (.not (.app .b 31 0 c20x5)) (.and (.app .b 31 0 c20x5) c20x9)))))
def c20x11 : List E :=
  [(.app (.i .u32) 43 0 c20x2), (.app (.i .u32) 42 1 c20x0), (.app (.i .u32) 42 2 c20x0), (.app (.i .u32) 42 3 c20x0), (.app (.i .u32) 42 4 c20x0), (.app (.i .u32) 42 5 c20x0), (.app (.i .u32) 42 6 c20x0)]
def c20x12 : E :=
  (.ite (.cmp .eql (.var (.i .u8) 1) (.lit (.i .u8) 0)) (.ite (.cmp .eql (.var (.i .u8) 14) (.lit (.i .u8) 1)) (.lit (.i .u32) 17) (.lit (.i .u32) 1)) (.app (.i .u32) 43 0 c20x3))
def c20x13 : List E :=
  [(.app (.i .u32) 42 0 c20x0), c20x12, (.app (.i .u32) 42 2 c20x0), (.app (.i .u32) 42 3 c20x0), (.app (.i .u32) 42 4 c20x0), (.app (.i .u32) 42 5 c20x0), (.app (.i .u32) 42 6 c20x0)]
def c20x14 : List E :=
  [(.app (.i .u32) 42 0 c20x0), (.app (.i .u32) 42 1 c20x0), (.app (.i .u32) 43 0 c20x4), (.app (.i .u32) 42 3 c20x0), (.app (.i .u32) 42 4 c20x0), (.app (.i .u32) 42 5 c20x0), (.app (.i .u32) 42 6 c20x0)]
def c20x15 : List E :=
  [(.app (.i .u32) 42 0 c20x0), (.app (.i .u32) 42 1 c20x0), (.app (.i .u32) 42 2 c20x0), (.app (.i .u32) 43 0 c20x5), (.app (.i .u32) 42 4 c20x0), (.app (.i .u32) 42 5 c20x0), (.app (.i .u32) 42 6 c20x0)]
def c20x16 : List E :=
  [(.app (.i .u32) 42 0 c20x0), (.app (.i .u32) 42 1 c20x0), (.app (.i .u32) 42 2 c20x0), (.app (.i .u32) 42 3 c20x0), (.app (.i .u32) 43 0 c20x6), (.app (.i .u32) 42 5 c20x0), (.app (.i .u32) 42 6 c20x0)]
def c20x17 : List E :=
  [(.app (.i .u32) 42 0 c20x0), (.app (.i .u32) 42 1 c20x0), (.app (.i .u32) 42 2 c20x0), (.app (.i .u32) 42 3 c20x0), (.app (.i .u32) 42 4 c20x0), (.app (.i .u32) 43 0 c20x7), (.app (.i .u32) 42 6 c20x0)]
def c20x18 : List E :=
  [(.app (.i .u32) 42 0 c20x0), (.app (.i .u32) 42 1 c20x0), (.app (.i .u32) 42 2 c20x0), (.app (.i .u32) 42 3 c20x0), (.app (.i .u32) 42 4 c20x0), (.app (.i .u32) 42 5 c20x0), (.app (.i .u32) 43 0 c20x8)]
def es20 : List E :=
  [(.ite (.or (.not (.app .b 17 0 c20x0)) (.not (.app .b 17 0 c20x1))) (.lit (.i .u8) 0) (.ite (.or (.not (.app .b 31 0 c20x2)) (.and (.app .b 31 0 c20x2) (.or (.not (.app .b 31 0 c20x3)) c20x10))) (.ite (.not (.app .b 31 0 c20x2)) (.app (.i
    .u8) 41 0 c20x11) (.ite (.not (.app .b 31 0 c20x3)) (.app (.i .u8) 41 0 c20x13) (.ite (.not (.app .b 31 0 c20x4)) (.app (.i .u8) 41 0 c20x14) (.ite (.not (.app .b 31 0 c20x5)) (.app (.i .u8) 41 0 c20x15) (.ite (.not (.app .b 31 0 c20x6))
    (.app (.i .u8) 41 0 c20x16) (.ite (.not (.app .b 31 0 c20x7)) (.app (.i .u8) 41 0 c20x17) (.app (.i .u8) 41 0 c20x18))))))) (.lit (.i .u8) 0))), (.ite (.or (.not (.app .b 17 0 c20x0)) (.not (.app .b 17 0 c20x1))) (.lit (.i .u8) 0) (.ite
    (.or (.not (.app .b 31 0 c20x2)) (.and (.app .b 31 0 c20x2) (.or (.not (.app .b 31 0 c20x3)) c20x10))) (.ite (.not (.app .b 31 0 c20x2)) (.app (.i .u8) 41 1 c20x11) (.ite (.not (.app .b 31 0 c20x3)) (.app (.i .u8) 41 1 c20x13) (.ite (.not
    (.app .b 31 0 c20x4)) (.app (.i .u8) 41 1 c20x14) (.ite (.not (.app .b 31 0 c20x5)) (.app (.i .u8) 41 1 c20x15) (.ite (.not (.app .b 31 0 c20x6)) (.app (.i .u8) 41 1 c20x16) (.ite (.not (.app .b 31 0 c20x7)) (.app (.i .u8) 41 1 c20x17)
    (.app (.i .u8) 41 1 c20x18))))))) (.lit (.i .u8) 0))), (.ite (.or (.not (.app .b 17 0 c20x0)) (.not (.app .b 17 0 c20x1))) (.lit (.i .u32) 0) (.ite (.or (.not (.app .b 31 0 c20x2)) (.and (.app .b 31 0 c20x2) (.or (.not (.app .b 31 0 c20x3))
    c20x10))) (.ite (.not (.app .b 31 0 c20x2)) (.app (.i .u32) 41 2 c20x11) (.ite (.not (.app .b 31 0 c20x3)) (.app (.i .u32) 41 2 c20x13) (.ite (.not (.app .b 31 0 c20x4)) (.app (.i .u32) 41 2 c20x14) (.ite (.not (.app .b 31 0 c20x5)) (.app
    (.i .u32) 41 2 c20x15) (.ite (.not (.app .b 31 0 c20x6)) (.app (.i .u32) 41 2 c20x16) (.ite (.not (.app .b 31 0 c20x7)) (.app (.i .u32) 41 2 c20x17) (.app (.i .u32) 41 2 c20x18))))))) (.lit (.i .u32) 0))), (.ite (.or (.not (.app .b 17 0
    c20x0)) (.not (.app .b 17 0 c20x1))) (.lit (.i .u32) 0) (.ite (.or (.not (.app .b 31 0 c20x2)) (.and (.app .b 31 0 c20x2) (.or (.not (.app .b 31 0 c20x3)) c20x10))) (.ite (.not (.app .b 31 0 c20x2)) (.app (.i .u32) 41 3 c20x11) (.ite (.not
    (.app .b 31 0 c20x3)) (.app (.i .u32) 41 3 c20x13) (.ite (.not (.app .b 31 0 c20x4)) (.app (.i .u32) 41 3 c20x14) (.ite (.not (.app .b 31 0 c20x5)) (.app (.i .u32) 41 3 c20x15) (.ite (.not (.app .b 31 0 c20x6)) (.app (.i .u32) 41 3 c20x16)
    (.ite (.not (.app .b 31 0 c20x7)) (.app (.i .u32) 41 3 c20x17) (.app (.i .u32) 41 3 c20x18))))))) (.lit (.i .u32) 0))), (.ite (.or (.not (.app .b 17 0 c20x0)) (.not (.app .b 17 0 c20x1))) (.lit (.i .u16) 0) (.ite (.or (.not (.app .b 31 0
    c20x2)) (.and (.app .b 31 0 c20x2) (.or (.not (.app .b 31 0 c20x3)) c20x10))) (.ite (.not (.app .b 31 0 c20x2)) (.app (.i .u16) 41 4 c20x11) (.ite (.not (.app .b 31 0 c20x3)) (.app (.i .u16) 41 4 c20x13) (.ite (.not (.app .b 31 0 c20x4))
    (.app (.i .u16) 41 4 c20x14) (.ite (.not (.app .b 31 0 c20x5)) (.app (.i .u16) 41 4 c20x15) (.ite (.not (.app .b 31 0 c20x6)) (.app (.i .u16) 41 4 c20x16) (.ite (.not (.app .b 31 0 c20x7)) (.app (.i .u16) 41 4 c20x17) (.app (.i .u16) 41 4
    c20x18))))))) (.lit (.i .u16) 0))), (.ite (.or (.not (.app .b 17 0 c20x0)) (.not (.app .b 17 0 c20x1))) (.lit (.i .u16) 0) (.ite (.or (.not (.app .b 31 0 c20x2)) (.and (.app .b 31 0 c20x2) (.or (.not (.app .b 31 0 c20x3)) c20x10))) (.ite
    (.not (.app .b 31 0 c20x2)) (.app (.i .u16) 41 5 c20x11) (.ite (.not (.app .b 31 0 c20x3)) (.app (.i .u16) 41 5 c20x13) (.ite (.not (.app .b 31 0 c20x4)) (.app (.i .u16) 41 5 c20x14) (.ite (.not (.app .b 31 0 c20x5)) (.app (.i .u16) 41 5
    c20x15) (.ite (.not (.app .b 31 0 c20x6)) (.app (.i .u16) 41 5 c20x16) (.ite (.not (.app .b 31 0 c20x7)) (.app (.i .u16) 41 5 c20x17) (.app (.i .u16) 41 5 c20x18))))))) (.lit (.i .u16) 0))), (.ite (.or (.not (.app .b 17 0 c20x0)) (.not
    (.app .b 17 0 c20x1))) (.lit (.i .u8) 0) (.ite (.or (.not (.app .b 31 0 c20x2)) (.and (.app .b 31 0 c20x2) (.or (.not (.app .b 31 0 c20x3)) c20x10))) (.ite (.not (.app .b 31 0 c20x2)) (.app (.i .u8) 41 6 c20x11) (.ite (.not (.app .b 31 0
    c20x3)) (.app (.i .u8) 41 6 c20x13) (.ite (.not (.app .b 31 0 c20x4)) (.app (.i .u8) 41 6 c20x14) (.ite (.not (.app .b 31 0 c20x5)) (.app (.i .u8) 41 6 c20x15) (.ite (.not (.app .b 31 0 c20x6)) (.app (.i .u8) 41 6 c20x16) (.ite (.not (.app
    .b 31 0 c20x7)) (.app (.i .u8) 41 6 c20x17) (.app (.i .u8) 41 6 c20x18))))))) (.lit (.i .u8) 0))), (.ite (.or (.not (.app .b 17 0 c20x0)) (.not (.app .b 17 0 c20x1))) (.lit (.i .u8) 0) (.ite (.or (.not (.app .b 31 0 c20x2)) (.and (.app .b
    31 0 c20x2) (.or (.not (.app .b 31 0 c20x3)) c20x10))) (.ite (.not (.app .b 31 0 c20x2)) (.app (.i .u8) 41 7 c20x11) (.ite (.not (.app .b 31 0 c20x3)) (.app (.i .u8) 41 7 c20x13) (.ite (.not (.app .b 31 0 c20x4)) (.app (.i .u8) 41 7 c20x14)
    (.ite (.not (.app .b 31 0 c20x5)) (.app (.i .u8) 41 7 c20x15) (.ite (.not (.app .b 31 0 c20x6)) (.app (.i .u8) 41 7 c20x16) (.ite (.not (.app .b 31 0 c20x7)) (.app (.i .u8) 41 7 c20x17) (.app (.i .u8) 41 7 c20x18))))))) (.lit (.i .u8) 0))),
    (.ite (.or (.not (.app .b 17 0 c20x0)) (.not (.app .b 17 0 c20x1))) (.lit (.i .u8) 0) (.ite (.or (.not (.app .b 31 0 c20x2)) (.and (.app .b 31 0 c20x2) (.or (.not (.app .b 31 0 c20x3)) c20x10))) (.ite (.not (.app .b 31 0 c20x2)) (.app (.i
    .u8) 41 8 c20x11) (.ite (.not (.app .b 31 0 c20x3)) (.app (.i .u8) 41 8 c20x13) (.ite (.not (.app .b 31 0 c20x4)) (.app (.i .u8) 41 8 c20x14) (.ite (.not (.app .b 31 0 c20x5)) (.app (.i .u8) 41 8 c20x15) (.ite (.not (.app .b 31 0 c20x6))
    (.app (.i .u8) 41 8 c20x16) (.ite (.not (.app .b 31 0 c20x7)) (.app (.i .u8) 41 8 c20x17) (.app (.i .u8) 41 8 c20x18))))))) (.lit (.i .u8) 0))), (.ite (.or (.not (.app .b 17 0 c20x0)) (.not (.app .b 17 0 c20x1))) (.lit (.i .u8) 0) (.ite
    (.or (.not (.app .b 31 0 c20x2)) (.and (.app .b 31 0 c20x2) (.or (.not (.app .b 31 0 c20x3)) c20x10))) (.ite (.not (.app .b 31 0 c20x2)) (.app (.i .u8) 41 9 c20x11) (.ite (.not (.app .b 31 0 c20x3)) (.app (.i .u8) 41 9 c20x13) (.ite (.not
    (.app .b 31 0 c20x4)) (.app (.i .u8) 41 9 c20x14) (.ite (.not (.app .b 31 0 c20x5)) (.app (.i .u8) 41 9 c20x15) (.ite (.not (.app .b 31 0 c20x6)) (.app (.i .u8) 41 9 c20x16) (.ite (.not (.app .b 31 0 c20x7)) (.app (.i .u8) 41 9 c20x17)
    (.app (.i .u8) 41 9 c20x18))))))) (.lit (.i .u8) 0))), (.ite (.or (.not (.app .b 17 0 c20x0)) (.not (.app .b 17 0 c20x1))) (.lit (.i .u32) 0) (.ite (.or (.not (.app .b 31 0 c20x2)) (.and (.app .b 31 0 c20x2) (.or (.not (.app .b 31 0 c20x3))
    c20x10))) (.ite (.not (.app .b 31 0 c20x2)) (.app (.i .u32) 41 10 c20x11) (.ite (.not (.app .b 31 0 c20x3)) (.app (.i .u32) 41 10 c20x13) (.ite (.not (.app .b 31 0 c20x4)) (.app (.i .u32) 41 10 c20x14) (.ite (.not (.app .b 31 0 c20x5))
    (.app (.i .u32) 41 10 c20x15) (.ite (.not (.app .b 31 0 c20x6)) (.app (.i .u32) 41 10 c20x16) (.ite (.not (.app .b 31 0 c20x7)) (.app (.i .u32) 41 10 c20x17) (.app (.i .u32) 41 10 c20x18))))))) (.lit (.i .u32) 0))), (.ite (.or (.not (.app
    .b 17 0 c20x0)) (.not (.app .b 17 0 c20x1))) (.lit (.i .u32) 0) (.ite (.or (.not (.app .b 31 0 c20x2)) (.and (.app .b 31 0 c20x2) (.or (.not (.app .b 31 0 c20x3)) c20x10))) (.ite (.not (.app .b 31 0 c20x2)) (.app (.i .u32) 41 11 c20x11)
    (.ite (.not (.app .b 31 0 c20x3)) (.app (.i .u32) 41 11 c20x13) (.ite (.not (.app .b 31 0 c20x4)) (.app (.i .u32) 41 11 c20x14) (.ite (.not (.app .b 31 0 c20x5)) (.app (.i .u32) 41 11 c20x15) (.ite (.not (.app .b 31 0 c20x6)) (.app (.i
    .u32) 41 11 c20x16) (.ite (.not (.app .b 31 0 c20x7)) (.app (.i .u32) 41 11 c20x17) (.app (.i .u32) 41 11 c20x18))))))) (.lit (.i .u32) 0))), (.ite (.or (.not (.app .b 17 0 c20x0)) (.not (.app .b 17 0 c20x1))) (.lit (.i .i64) 0) (.ite (.or
    (.not (.app .b 31 0 c20x2)) (.and (.app .b 31 0 c20x2) (.or (.not (.app .b 31 0 c20x3)) c20x10))) (.ite (.not (.app .b 31 0 c20x2)) (.app (.i .i64) 41 12 c20x11) (.ite (.not (.app .b 31 0 c20x3)) (.app (.i .i64) 41 12 c20x13) (.ite (.not
    (.app .b 31 0 c20x4)) (.app (.i .i64) 41 12 c20x14) (.ite (.not (.app .b 31 0 c20x5)) (.app (.i .i64) 41 12 c20x15) (.ite (.not (.app .b 31 0 c20x6)) (.app (.i .i64) 41 12 c20x16) (.ite (.not (.app .b 31 0 c20x7)) (.app (.i .i64) 41 12
    c20x17) (.app (.i .i64) 41 12 c20x18))))))) (.lit (.i .i64) 0))), (.ite (.or (.not (.app .b 17 0 c20x0)) (.not (.app .b 17 0 c20x1))) (.lit (.i .i64) 0) (.ite (.or (.not (.app .b 31 0 c20x2)) (.and (.app .b 31 0 c20x2) (.or (.not (.app .b
    31 0 c20x3)) c20x10))) (.ite (.not (.app .b 31 0 c20x2)) (.app (.i .i64) 41 13 c20x11) (.ite (.not (.app .b 31 0 c20x3)) (.app (.i .i64) 41 13 c20x13) (.ite (.not (.app .b 31 0 c20x4)) (.app (.i .i64) 41 13 c20x14) (.ite (.not (.app .b 31 0
    c20x5)) (.app (.i .i64) 41 13 c20x15) (.ite (.not (.app .b 31 0 c20x6)) (.app (.i .i64) 41 13 c20x16) (.ite (.not (.app .b 31 0 c20x7)) (.app (.i .i64) 41 13 c20x17) (.app (.i .i64) 41 13 c20x18))))))) (.lit (.i .i64) 0))), (.ite (.or (.not
    (.app .b 17 0 c20x0)) (.not (.app .b 17 0 c20x1))) (.lit (.i .u8) 0) (.ite (.or (.not (.app .b 31 0 c20x2)) (.and (.app .b 31 0 c20x2) (.or (.not (.app .b 31 0 c20x3)) c20x10))) (.ite (.not (.app .b 31 0 c20x2)) (.app (.i .u8) 41 14 c20x11)
    (.ite (.not (.app .b 31 0 c20x3)) (.app (.i .u8) 41 14 c20x13) (.ite (.not (.app .b 31 0 c20x4)) (.app (.i .u8) 41 14 c20x14) (.ite (.not (.app .b 31 0 c20x5)) (.app (.i .u8) 41 14 c20x15) (.ite (.not (.app .b 31 0 c20x6)) (.app (.i .u8) 41
    14 c20x16) (.ite (.not (.app .b 31 0 c20x7)) (.app (.i .u8) 41 14 c20x17) (.app (.i .u8) 41 14 c20x18))))))) (.lit (.i .u8) 0))), (.ite (.or (.not (.app .b 17 0 c20x0)) (.not (.app .b 17 0 c20x1))) (.lit (.i .u32) 0) (.ite (.or (.not (.app
    .b 31 0 c20x2)) (.and (.app .b 31 0 c20x2) (.or (.not (.app .b 31 0 c20x3)) c20x10))) (.ite (.not (.app .b 31 0 c20x2)) (.app (.i .u32) 41 15 c20x11) (.ite (.not (.app .b 31 0 c20x3)) (.app (.i .u32) 41 15 c20x13) (.ite (.not (.app .b 31 0
    c20x4)) (.app (.i .u32) 41 15 c20x14) (.ite (.not (.app .b 31 0 c20x5)) (.app (.i .u32) 41 15 c20x15) (.ite (.not (.app .b 31 0 c20x6)) (.app (.i .u32) 41 15 c20x16) (.ite (.not (.app .b 31 0 c20x7)) (.app (.i .u32) 41 15 c20x17) (.app (.i
    .u32) 41 15 c20x18))))))) (.lit (.i .u32) 0))), (.ite (.or (.not (.app .b 17 0 c20x0)) (.not (.app .b 17 0 c20x1))) (.lit (.i .u32) 0) (.ite (.or (.not (.app .b 31 0 c20x2)) (.and (.app .b 31 0 c20x2) (.or (.not (.app .b 31 0 c20x3))
    c20x10))) (.ite (.not (.app .b 31 0 c20x2)) (.app (.i .u32) 41 16 c20x11) (.ite (.not (.app .b 31 0 c20x3)) (.app (.i .u32) 41 16 c20x13) (.ite (.not (.app .b 31 0 c20x4)) (.app (.i .u32) 41 16 c20x14) (.ite (.not (.app .b 31 0 c20x5))
    (.app (.i .u32) 41 16 c20x15) (.ite (.not (.app .b 31 0 c20x6)) (.app (.i .u32) 41 16 c20x16) (.ite (.not (.app .b 31 0 c20x7)) (.app (.i .u32) 41 16 c20x17) (.app (.i .u32) 41 16 c20x18))))))) (.lit (.i .u32) 0))), (.ite (.or (.not (.app
    .b 17 0 c20x0)) (.not (.app .b 17 0 c20x1))) (.lit (.i .u16) 0) (.ite (.or (.not (.app .b 31 0 c20x2)) (.and (.app .b 31 0 c20x2) (.or (.not (.app .b 31 0 c20x3)) c20x10))) (.ite (.not (.app .b 31 0 c20x2)) (.app (.i .u16) 41 17 c20x11)
    (.ite (.not (.app .b 31 0 c20x3)) (.app (.i .u16) 41 17 c20x13) (.ite (.not (.app .b 31 0 c20x4)) (.app (.i .u16) 41 17 c20x14) (.ite (.not (.app .b 31 0 c20x5)) (.app (.i .u16) 41 17 c20x15) (.ite (.not (.app .b 31 0 c20x6)) (.app (.i
    .u16) 41 17 c20x16) (.ite (.not (.app .b 31 0 c20x7)) (.app (.i .u16) 41 17 c20x17) (.app (.i .u16) 41 17 c20x18))))))) (.lit (.i .u16) 0))), (.ite (.or (.not (.app .b 17 0 c20x0)) (.not (.app .b 17 0 c20x1))) (.lit (.i .u16) 0) (.ite (.or
    (.not (.app .b 31 0 c20x2)) (.and (.app .b 31 0 c20x2) (.or (.not (.app .b 31 0 c20x3)) c20x10))) (.ite (.not (.app .b 31 0 c20x2)) (.app (.i .u16) 41 18 c20x11) (.ite (.not (.app .b 31 0 c20x3)) (.app (.i .u16) 41 18 c20x13) (.ite (.not
    (.app .b 31 0 c20x4)) (.app (.i .u16) 41 18 c20x14) (.ite (.not (.app .b 31 0 c20x5)) (.app (.i .u16) 41 18 c20x15) (.ite (.not (.app .b 31 0 c20x6)) (.app (.i .u16) 41 18 c20x16) (.ite (.not (.app .b 31 0 c20x7)) (.app (.i .u16) 41 18
    c20x17) (.app (.i .u16) 41 18 c20x18))))))) (.lit (.i .u16) 0))), (.ite (.or (.not (.app .b 17 0 c20x0)) (.not (.app .b 17 0 c20x1))) (.lit (.i .u8) 0) (.ite (.or (.not (.app .b 31 0 c20x2)) (.and (.app .b 31 0 c20x2) (.or (.not (.app .b 31
    0 c20x3)) c20x10))) (.ite (.not (.app .b 31 0 c20x2)) (.app (.i .u8) 41 19 c20x11) (.ite (.not (.app .b 31 0 c20x3)) (.app (.i .u8) 41 19 c20x13) (.ite (.not (.app .b 31 0 c20x4)) (.app (.i .u8) 41 19 c20x14) (.ite (.not (.app .b 31 0
    c20x5)) (.app (.i .u8) 41 19 c20x15) (.ite (.not (.app .b 31 0 c20x6)) (.app (.i .u8) 41 19 c20x16) (.ite (.not (.app .b 31 0 c20x7)) (.app (.i .u8) 41 19 c20x17) (.app (.i .u8) 41 19 c20x18))))))) (.lit (.i .u8) 0))), (.ite (.or (.not
    (.app .b 17 0 c20x0)) (.not (.app .b 17 0 c20x1))) (.lit (.i .i64) 260) (.ite (.or (.not (.app .b 31 0 c20x2)) (.and (.app .b 31 0 c20x2) (.or (.not (.app .b 31 0 c20x3)) c20x10))) (.lit (.i .i64) 0) (.lit (.i .i64) 6)))]
def en20' : Entry := ⟨20, 20, [.a ruleK, .a ruleK], .tup [.s (.i .u8), .a factsK, .s (.i .i64)], fnOf T43 es20⟩
theorem ok20' : EntryOK Tryd.prog G0 en20' := evE_ok (N := 200) (n := 20) (by kernel_rfl) tok43 (by kernel_rfl)
def en20 : Entry := ⟨20, 20, [.a ruleK, .a ruleK], .tup [.s (.i .u8), .a factsK, .s (.i .i64)], fun j xs => apO (fun i => xs.getD i 0) (fun i => xs.getD (i + 13) 0) j⟩
theorem lem20 : ∀ xs, fits (allKs en20'.ps) xs → outsE en20'.fn xs 0 en20'.rs.ks = outsE en20.fn xs 0 en20.rs.ks := by
  intro xs hx
  replace hx : fits [.i .u8, .i .u8, .i .u8, .i .u8, .i .u32, .i .u8, .i .u32, .i .u8, .i .u16, .i .u16, .i .u16, .i .u16, .b, .i .u8, .i .u8, .i .u8, .i .u8, .i .u32, .i .u8, .i .u32, .i .u8, .i .u16, .i .u16, .i .u16, .i .u16, .b] xs := hx
  obtain ⟨a0, r0, rfl, h0, y0⟩ := fits_cons hx
  obtain ⟨a1, r1, rfl, h1, y1⟩ := fits_cons y0
  obtain ⟨a2, r2, rfl, h2, y2⟩ := fits_cons y1
  obtain ⟨a3, r3, rfl, h3, y3⟩ := fits_cons y2
  obtain ⟨a4, r4, rfl, h4, y4⟩ := fits_cons y3
  obtain ⟨a5, r5, rfl, h5, y5⟩ := fits_cons y4
  obtain ⟨a6, r6, rfl, h6, y6⟩ := fits_cons y5
  obtain ⟨a7, r7, rfl, h7, y7⟩ := fits_cons y6
  obtain ⟨a8, r8, rfl, h8, y8⟩ := fits_cons y7
  obtain ⟨a9, r9, rfl, h9, y9⟩ := fits_cons y8
  obtain ⟨a10, r10, rfl, h10, y10⟩ := fits_cons y9
  obtain ⟨a11, r11, rfl, h11, y11⟩ := fits_cons y10
  obtain ⟨a12, r12, rfl, h12, y12⟩ := fits_cons y11
  obtain ⟨a13, r13, rfl, h13, y13⟩ := fits_cons y12
  obtain ⟨a14, r14, rfl, h14, y14⟩ := fits_cons y13
  obtain ⟨a15, r15, rfl, h15, y15⟩ := fits_cons y14
  obtain ⟨a16, r16, rfl, h16, y16⟩ := fits_cons y15
  obtain ⟨a17, r17, rfl, h17, y17⟩ := fits_cons y16
  obtain ⟨a18, r18, rfl, h18, y18⟩ := fits_cons y17
  obtain ⟨a19, r19, rfl, h19, y19⟩ := fits_cons y18
  obtain ⟨a20, r20, rfl, h20, y20⟩ := fits_cons y19
  obtain ⟨a21, r21, rfl, h21, y21⟩ := fits_cons y20
  obtain ⟨a22, r22, rfl, h22, y22⟩ := fits_cons y21
  obtain ⟨a23, r23, rfl, h23, y23⟩ := fits_cons y22
  obtain ⟨a24, r24, rfl, h24, y24⟩ := fits_cons y23
  obtain ⟨a25, r25, rfl, h25, y25⟩ := fits_cons y24
  obtain rfl := fits_nil y25
  clear hx y0 y1 y2 y3 y4 y5 y6 y7 y8 y9 y10 y11 y12 y13 y14 y15 y16 y17 y18 y19 y20 y21 y22 y23 y24 y25
  have q0 : 0 ≤ a0 ∧ a0 < 256 := rng8 h0
  have q1 : 0 ≤ a1 ∧ a1 < 256 := rng8 h1
  have q2 : 0 ≤ a2 ∧ a2 < 256 := rng8 h2
  have q3 : 0 ≤ a3 ∧ a3 < 256 := rng8 h3
  have q4 : 0 ≤ a4 ∧ a4 < 4294967296 := rng32 h4
  have q5 : 0 ≤ a5 ∧ a5 < 256 := rng8 h5
  have q6 : 0 ≤ a6 ∧ a6 < 4294967296 := rng32 h6
  have q7 : 0 ≤ a7 ∧ a7 < 256 := rng8 h7
  have q8 : 0 ≤ a8 ∧ a8 < 65536 := rng16 h8
  have q9 : 0 ≤ a9 ∧ a9 < 65536 := rng16 h9
  have q10 : 0 ≤ a10 ∧ a10 < 65536 := rng16 h10
  have q11 : 0 ≤ a11 ∧ a11 < 65536 := rng16 h11
  have q13 : 0 ≤ a13 ∧ a13 < 256 := rng8 h13
  have q14 : 0 ≤ a14 ∧ a14 < 256 := rng8 h14
  have q15 : 0 ≤ a15 ∧ a15 < 256 := rng8 h15
  have q16 : 0 ≤ a16 ∧ a16 < 256 := rng8 h16
  have q17 : 0 ≤ a17 ∧ a17 < 4294967296 := rng32 h17
  have q18 : 0 ≤ a18 ∧ a18 < 256 := rng8 h18
  have q19 : 0 ≤ a19 ∧ a19 < 4294967296 := rng32 h19
  have q20 : 0 ≤ a20 ∧ a20 < 256 := rng8 h20
  have q21 : 0 ≤ a21 ∧ a21 < 65536 := rng16 h21
  have q22 : 0 ≤ a22 ∧ a22 < 65536 := rng16 h22
  have q23 : 0 ≤ a23 ∧ a23 < 65536 := rng16 h23
  have q24 : 0 ≤ a24 ∧ a24 < 65536 := rng16 h24
  obtain ⟨A, eA⟩ : ∃ A : Nat → Int, A = fun i => [a0, a1, a2, a3, a4, a5, a6, a7, a8, a9, a10, a11, a12].getD i 0 := ⟨_, rfl⟩
  have hA : RuleIn A := by rw [eA]; exact rule1 q0 q1 q2 q3 q4 q5 q6 q7 q8 q9 q10 q11
  obtain ⟨B, eB⟩ : ∃ B : Nat → Int, B = fun i => [a13, a14, a15, a16, a17, a18, a19, a20, a21, a22, a23, a24, a25].getD i 0 := ⟨_, rfl⟩
  have hB : RuleIn B := by rw [eB]; exact rule1 q13 q14 q15 q16 q17 q18 q19 q20 q21 q22 q23 q24
  show outsE (fnOf T43 es20) [a0, a1, a2, a3, a4, a5, a6, a7, a8, a9, a10, a11, a12, a13, a14, a15, a16, a17, a18, a19, a20, a21, a22, a23, a24, a25] 0 [.i .u8, .i .u8, .i .u32, .i .u32, .i .u16, .i .u16, .i .u8, .i .u8, .i .u8, .i .u8, .i .u32, .i .u32, .i .i64, .i .i64, .i .u8, .i .u32, .i .u32, .i .u16, .i .u16, .i .u8, .i .i64] = outsE (fun j xs => apO (fun i => [a0, a1, a2, a3, a4, a5, a6, a7, a8, a9, a10, a11, a12].getD i 0) (fun i => [a13, a14, a15, a16, a17, a18, a19, a20, a21, a22, a23, a24, a25].getD i 0) j) [a0, a1, a2, a3, a4, a5, a6, a7, a8, a9, a10, a11, a12, a13, a14, a15, a16, a17, a18, a19, a20, a21, a22, a23, a24, a25] 0 [.i .u8, .i .u8, .i .u32, .i .u32, .i .u16, .i .u16, .i .u8, .i .u8, .i .u8, .i .u8, .i .u32, .i .u32, .i .i64, .i .i64, .i .u8, .i .u32, .i .u32, .i .u16, .i .u16, .i .u8, .i .i64]
  rw [← eA, ← eB]
  have F17 : T43.F 17 0 [a0, a1, a2, a3, a4, a5, a6, a7, a8, a9, a10, a11, a12] = b2i (rightS A) := by rw [eA]; rfl
  have G17 : T43.F 17 0 [a13, a14, a15, a16, a17, a18, a19, a20, a21, a22, a23, a24, a25] = b2i (rightS B) := by rw [eB]; rfl
  have F30 : ∀ j, T43.F 30 j [a0, a1, a2, a3, a4, a5, a6, a7, a8, a9, a10, a11, a12] = fieldsF A j := fun j => by rw [eA]; rfl
  have G30 : ∀ j, T43.F 30 j [a13, a14, a15, a16, a17, a18, a19, a20, a21, a22, a23, a24, a25] = fieldsF B j := fun j => by rw [eB]; rfl
  have F42 : ∀ j, T43.F 42 j [a0, a1, a2, a3, a4, a5, a6, a7, a8, a9, a10, a11, a12] = leastF A j := fun j => by rw [eA]; rfl
  have F41 : ∀ j xs, T43.F 41 j xs = packF (fun i => xs.getD i 0) j := fun j xs => rfl
  have i0 : T43.F 31 0 [fieldsF A 0, fieldsF A 1, fieldsF A 2, fieldsF A 3, fieldsF B 0, fieldsF B 1, fieldsF B 2, fieldsF B 3] = b2i (insI7 A B 0) := rfl
  have o0 : T43.F 43 0 [fieldsF A 0, fieldsF A 1, fieldsF A 2, fieldsF A 3, fieldsF B 0, fieldsF B 1, fieldsF B 2, fieldsF B 3] = othI7 A B 0 := rfl
  have i1 : T43.F 31 0 [fieldsF A 4, fieldsF A 5, fieldsF A 6, fieldsF A 7, fieldsF B 4, fieldsF B 5, fieldsF B 6, fieldsF B 7] = b2i (insI7 A B 1) := rfl
  have o1 : T43.F 43 0 [fieldsF A 4, fieldsF A 5, fieldsF A 6, fieldsF A 7, fieldsF B 4, fieldsF B 5, fieldsF B 6, fieldsF B 7] = othI7 A B 1 := rfl
  have i2 : T43.F 31 0 [fieldsF A 8, fieldsF A 9, fieldsF A 10, fieldsF A 11, fieldsF B 8, fieldsF B 9, fieldsF B 10, fieldsF B 11] = b2i (insI7 A B 2) := rfl
  have o2 : T43.F 43 0 [fieldsF A 8, fieldsF A 9, fieldsF A 10, fieldsF A 11, fieldsF B 8, fieldsF B 9, fieldsF B 10, fieldsF B 11] = othI7 A B 2 := rfl
  have i3 : T43.F 31 0 [fieldsF A 12, fieldsF A 13, fieldsF A 14, fieldsF A 15, fieldsF B 12, fieldsF B 13, fieldsF B 14, fieldsF B 15] = b2i (insI7 A B 3) := rfl
  have o3 : T43.F 43 0 [fieldsF A 12, fieldsF A 13, fieldsF A 14, fieldsF A 15, fieldsF B 12, fieldsF B 13, fieldsF B 14, fieldsF B 15] = othI7 A B 3 := rfl
  have i4 : T43.F 31 0 [fieldsF A 16, fieldsF A 17, fieldsF A 18, fieldsF A 19, fieldsF B 16, fieldsF B 17, fieldsF B 18, fieldsF B 19] = b2i (insI7 A B 4) := rfl
  have o4 : T43.F 43 0 [fieldsF A 16, fieldsF A 17, fieldsF A 18, fieldsF A 19, fieldsF B 16, fieldsF B 17, fieldsF B 18, fieldsF B 19] = othI7 A B 4 := rfl
  have i5 : T43.F 31 0 [fieldsF A 20, fieldsF A 21, fieldsF A 22, fieldsF A 23, fieldsF B 20, fieldsF B 21, fieldsF B 22, fieldsF B 23] = b2i (insI7 A B 5) := rfl
  have o5 : T43.F 43 0 [fieldsF A 20, fieldsF A 21, fieldsF A 22, fieldsF A 23, fieldsF B 20, fieldsF B 21, fieldsF B 22, fieldsF B 23] = othI7 A B 5 := rfl
  have i6 : T43.F 31 0 [fieldsF A 24, fieldsF A 25, fieldsF A 26, fieldsF A 27, fieldsF B 24, fieldsF B 25, fieldsF B 26, fieldsF B 27] = b2i (insI7 A B 6) := rfl
  have o6 : T43.F 43 0 [fieldsF A 24, fieldsF A 25, fieldsF A 26, fieldsF A 27, fieldsF B 24, fieldsF B 25, fieldsF B 26, fieldsF B 27] = othI7 A B 6 := rfl
  have e1 : a1 = A 1 := by rw [eA]; rfl
  have e14 : a14 = B 1 := by rw [eB]; rfl
  have n1 : (bif a1 == K.norm (.i .u8) 0 then (bif a14 == K.norm (.i .u8) 1 then K.norm (.i .u32) 17 else K.norm (.i .u32) 1) else othI7 A B 1) = apN A B 1 := by rw [e1, e14]; rfl
  have hp0 : ∀ j, packF (fun i => [othI7 A B 0, leastF A 1, leastF A 2, leastF A 3, leastF A 4, leastF A 5, leastF A 6].getD i 0) j = packF (upd (leastF A) 0 (apN A B 0)) j := packF_congr fun i hi => by
    match i, hi with
    | 0, _ => rfl
    | 1, _ => rfl
    | 2, _ => rfl
    | 3, _ => rfl
    | 4, _ => rfl
    | 5, _ => rfl
    | 6, _ => rfl
  have hp1 : ∀ j, packF (fun i => [leastF A 0, apN A B 1, leastF A 2, leastF A 3, leastF A 4, leastF A 5, leastF A 6].getD i 0) j = packF (upd (leastF A) 1 (apN A B 1)) j := packF_congr fun i hi => by
    match i, hi with
    | 0, _ => rfl
    | 1, _ => rfl
    | 2, _ => rfl
    | 3, _ => rfl
    | 4, _ => rfl
    | 5, _ => rfl
    | 6, _ => rfl
  have hp2 : ∀ j, packF (fun i => [leastF A 0, leastF A 1, othI7 A B 2, leastF A 3, leastF A 4, leastF A 5, leastF A 6].getD i 0) j = packF (upd (leastF A) 2 (apN A B 2)) j := packF_congr fun i hi => by
    match i, hi with
    | 0, _ => rfl
    | 1, _ => rfl
    | 2, _ => rfl
    | 3, _ => rfl
    | 4, _ => rfl
    | 5, _ => rfl
    | 6, _ => rfl
  have hp3 : ∀ j, packF (fun i => [leastF A 0, leastF A 1, leastF A 2, othI7 A B 3, leastF A 4, leastF A 5, leastF A 6].getD i 0) j = packF (upd (leastF A) 3 (apN A B 3)) j := packF_congr fun i hi => by
    match i, hi with
    | 0, _ => rfl
    | 1, _ => rfl
    | 2, _ => rfl
    | 3, _ => rfl
    | 4, _ => rfl
    | 5, _ => rfl
    | 6, _ => rfl
  have hp4 : ∀ j, packF (fun i => [leastF A 0, leastF A 1, leastF A 2, leastF A 3, othI7 A B 4, leastF A 5, leastF A 6].getD i 0) j = packF (upd (leastF A) 4 (apN A B 4)) j := packF_congr fun i hi => by
    match i, hi with
    | 0, _ => rfl
    | 1, _ => rfl
    | 2, _ => rfl
    | 3, _ => rfl
    | 4, _ => rfl
    | 5, _ => rfl
    | 6, _ => rfl
  have hp5 : ∀ j, packF (fun i => [leastF A 0, leastF A 1, leastF A 2, leastF A 3, leastF A 4, othI7 A B 5, leastF A 6].getD i 0) j = packF (upd (leastF A) 5 (apN A B 5)) j := packF_congr fun i hi => by
    match i, hi with
    | 0, _ => rfl
    | 1, _ => rfl
    | 2, _ => rfl
    | 3, _ => rfl
    | 4, _ => rfl
    | 5, _ => rfl
    | 6, _ => rfl
  have hp6 : ∀ j, packF (fun i => [leastF A 0, leastF A 1, leastF A 2, leastF A 3, leastF A 4, leastF A 5, othI7 A B 6].getD i 0) j = packF (upd (leastF A) 6 (apN A B 6)) j := packF_congr fun i hi => by
    match i, hi with
    | 0, _ => rfl
    | 1, _ => rfl
    | 2, _ => rfl
    | 3, _ => rfl
    | 4, _ => rfl
    | 5, _ => rfl
    | 6, _ => rfl
  simp only [outsE, es20, c20x0, c20x1, c20x2, c20x3, c20x4, c20x5, c20x6, c20x7, c20x8, c20x9, c20x10, c20x11, c20x12, c20x13, c20x14, c20x15, c20x16, c20x17, c20x18, fnOf, E.den, E.denL, binI, dvI, shI, cmpB, List.getD_cons_zero, List.getD_cons_succ, i2b_b2i, norm_b2i, F17, G17, F30, G30, F42, F41, h0, h1, h2, h3, h4, h5, h6, h7, h8, h9, h10, h11, h12, h13, h14, h15, h16, h17, h18, h19, h20, h21, h22, h23, h24, h25, Nat.zero_add, Nat.reduceAdd, nrm32 (leastF_in hA _), fieldsF_norm hA, fieldsF_norm hB, i0, i1, i2, i3, i4, i5, i6, o0, o1, o2, o3, o4, o5, o6, nrm32 (othI7_in hA _), n1]
  clear F17 G17 F30 G30 F42 F41 i0 i1 i2 i3 i4 i5 i6 o0 o1 o2 o3 o4 o5 o6
  unfold apO
  cases hr : rightS A
  · rfl
  cases hs : rightS B
  · rfl
  have e : insS A B = (insI7 A B 0 && insI7 A B 1 && insI7 A B 2 && insI7 A B 3 && insI7 A B 4 && insI7 A B 5 && insI7 A B 6) := (ins_all hA hB ((rightS_iff _).1 hr) ((rightS_iff _).1 hs)).symm
  rw [e]
  unfold apV
  clear e
  simp only [orn', Bool.not_true, Bool.or_self, cond_false, Bool.and_self, cond_true]
  cases h0_ : insI7 A B 0
  · simp only [Bool.not_false, Bool.not_true, Bool.and_false, Bool.false_and, Bool.true_and, Bool.and_true, Bool.true_or, Bool.or_true, Bool.false_or, Bool.or_false, cond_true, cond_false, hp0, K.norm_norm]
    rfl
  cases h1_ : insI7 A B 1
  · simp only [Bool.not_false, Bool.not_true, Bool.and_false, Bool.false_and, Bool.true_and, Bool.and_true, Bool.true_or, Bool.or_true, Bool.false_or, Bool.or_false, cond_true, cond_false, hp1, K.norm_norm]
    rfl
  cases h2_ : insI7 A B 2
  · simp only [Bool.not_false, Bool.not_true, Bool.and_false, Bool.false_and, Bool.true_and, Bool.and_true, Bool.true_or, Bool.or_true, Bool.false_or, Bool.or_false, cond_true, cond_false, hp2, K.norm_norm]
    rfl
  cases h3_ : insI7 A B 3
  · simp only [Bool.not_false, Bool.not_true, Bool.and_false, Bool.false_and, Bool.true_and, Bool.and_true, Bool.true_or, Bool.or_true, Bool.false_or, Bool.or_false, cond_true, cond_false, hp3, K.norm_norm]
    rfl
  cases h4_ : insI7 A B 4
  · simp only [Bool.not_false, Bool.not_true, Bool.and_false, Bool.false_and, Bool.true_and, Bool.and_true, Bool.true_or, Bool.or_true, Bool.false_or, Bool.or_false, cond_true, cond_false, hp4, K.norm_norm]
    rfl
  cases h5_ : insI7 A B 5
  · simp only [Bool.not_false, Bool.not_true, Bool.and_false, Bool.false_and, Bool.true_and, Bool.and_true, Bool.true_or, Bool.or_true, Bool.false_or, Bool.or_false, cond_true, cond_false, hp5, K.norm_norm]
    rfl
  cases h6_ : insI7 A B 6
  · simp only [Bool.not_false, Bool.not_true, Bool.and_false, Bool.false_and, Bool.true_and, Bool.and_true, Bool.true_or, Bool.or_true, Bool.false_or, Bool.or_false, cond_true, cond_false, hp6, K.norm_norm]
    rfl
  rfl
theorem ok20 : EntryOK Tryd.prog G0 en20 := ok20'.congr lem20
def T20 : Tabs := en20 :: T43
theorem tok20 : TabsOK Tryd.prog G0 T20 := .cons ok20 tok43

end Go.Proofs.YtbolcnlenmphhaaDoor
