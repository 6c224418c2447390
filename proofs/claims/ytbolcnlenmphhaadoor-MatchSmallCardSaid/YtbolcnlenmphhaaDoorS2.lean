/- Layer 26: summaries of the functions, second part: which packets a rule matches. Printed by a program from the evaluator's own output; the lemmas by hand. -/
import Derived.Test.YtbolcnlenmphhaaDoorS1
import Derived.Test.YtbolcnlenmphhaaDoorFm
set_option linter.unusedVariables false
set_option linter.unusedSimpArgs false
namespace Go.Proofs.YtbolcnlenmphhaaDoor
open Go Go.RowKit Ev

theorem orn' (c d : Bool) : (!c || (c && d)) = (!c || d) := by cases c <;> rfl
theorem b2i_eq (a b : Bool) : (b2i a == b2i b) = (a == b) := by cases a <;> cases b <;> rfl
theorem norm_lit32 (n : Int) : K.norm (.i .u32) n = n % 4294967296 := wrap32 n

def es55 : List E :=
  [(.ite (.cmp .eql (.var (.i .u8) 0) (.var (.i .u8) 1)) (.lit (.i .u32) 0) (.conv .u32 (.var (.i .u8) 0))), (.ite (.cmp .eql (.var (.i .u8) 0) (.var (.i .u8) 1)) (.var (.i .u32) 2) (.conv .u32 (.var (.i .u8) 0))), (.lit (.i .u32) 0), (.lit
    (.i .u32) 0)]
def en55 : Entry := ⟨55, 55, [.s (.i .u8), .s (.i .u8), .s (.i .u32)], .one (.a [.i .u32, .i .u32, .i .u32, .i .u32]), fnOf T26 es55⟩
theorem ok55 : EntryOK Tryd.prog G0 en55 := evE_ok (N := 200) (n := 20) (by kernel_rfl) tok26 (by kernel_rfl)
def T55 : Tabs := en55 :: T26
theorem tok55 : TabsOK Tryd.prog G0 T55 := .cons ok55 tok26

def es56 : List E :=
  [(.var (.i .u32) 0), (.bin .or .u32 (.var (.i .u32) 0) (.bin .xor .u32 (.lit (.i .u32) 4294967295) (.app (.i .u32) 57 0 [(.var (.i .u8) 1)]))), (.lit (.i .u32) 0), (.lit (.i .u32) 0)]
def en56 : Entry := ⟨56, 56, [.a [.i .u32, .i .u8]], .one (.a [.i .u32, .i .u32, .i .u32, .i .u32]), fnOf T55 es56⟩
theorem ok56 : EntryOK Tryd.prog G0 en56 := evE_ok (N := 200) (n := 20) (by kernel_rfl) tok55 (by kernel_rfl)
def T56 : Tabs := en56 :: T55
theorem tok56 : TabsOK Tryd.prog G0 T56 := .cons ok56 tok55

def es58 : List E :=
  [(.conv .u32 (.var (.i .u16) 0)), (.conv .u32 (.var (.i .u16) 1)), (.lit (.i .u32) 0), (.lit (.i .u32) 0)]
def en58 : Entry := ⟨58, 58, [.a [.i .u16, .i .u16]], .one (.a [.i .u32, .i .u32, .i .u32, .i .u32]), fnOf T56 es58⟩
theorem ok58 : EntryOK Tryd.prog G0 en58 := evE_ok (N := 200) (n := 20) (by kernel_rfl) tok56 (by kernel_rfl)
def T58 : Tabs := en58 :: T56
theorem tok58 : TabsOK Tryd.prog G0 T58 := .cons ok58 tok56

def es30 : List E :=
  [(.app (.i .u32) 55 0 [(.var (.i .u8) 0), (.lit (.i .u8) 2), (.lit (.i .u32) 1)]), (.app (.i .u32) 55 1 [(.var (.i .u8) 0), (.lit (.i .u8) 2), (.lit (.i .u32) 1)]), (.app (.i .u32) 55 2 [(.var (.i .u8) 0), (.lit (.i .u8) 2), (.lit (.i .u32)
    1)]), (.app (.i .u32) 55 3 [(.var (.i .u8) 0), (.lit (.i .u8) 2), (.lit (.i .u32) 1)]), (.app (.i .u32) 55 0 [(.var (.i .u8) 1), (.lit (.i .u8) 0), (.lit (.i .u32) 255)]), (.app (.i .u32) 55 1 [(.var (.i .u8) 1), (.lit (.i .u8) 0), (.lit
    (.i .u32) 255)]), (.app (.i .u32) 55 2 [(.var (.i .u8) 1), (.lit (.i .u8) 0), (.lit (.i .u32) 255)]), (.app (.i .u32) 55 3 [(.var (.i .u8) 1), (.lit (.i .u8) 0), (.lit (.i .u32) 255)]), (.app (.i .u32) 56 0 [(.var (.i .u32) 4), (.var (.i
    .u8) 5)]), (.app (.i .u32) 56 1 [(.var (.i .u32) 4), (.var (.i .u8) 5)]), (.app (.i .u32) 56 2 [(.var (.i .u32) 4), (.var (.i .u8) 5)]), (.app (.i .u32) 56 3 [(.var (.i .u32) 4), (.var (.i .u8) 5)]), (.app (.i .u32) 56 0 [(.var (.i .u32)
    6), (.var (.i .u8) 7)]), (.app (.i .u32) 56 1 [(.var (.i .u32) 6), (.var (.i .u8) 7)]), (.app (.i .u32) 56 2 [(.var (.i .u32) 6), (.var (.i .u8) 7)]), (.app (.i .u32) 56 3 [(.var (.i .u32) 6), (.var (.i .u8) 7)]), (.app (.i .u32) 58 0
    [(.var (.i .u16) 8), (.var (.i .u16) 9)]), (.app (.i .u32) 58 1 [(.var (.i .u16) 8), (.var (.i .u16) 9)]), (.app (.i .u32) 58 2 [(.var (.i .u16) 8), (.var (.i .u16) 9)]), (.app (.i .u32) 58 3 [(.var (.i .u16) 8), (.var (.i .u16) 9)]), (.app
    (.i .u32) 58 0 [(.var (.i .u16) 10), (.var (.i .u16) 11)]), (.app (.i .u32) 58 1 [(.var (.i .u16) 10), (.var (.i .u16) 11)]), (.app (.i .u32) 58 2 [(.var (.i .u16) 10), (.var (.i .u16) 11)]), (.app (.i .u32) 58 3 [(.var (.i .u16) 10), (.var
    (.i .u16) 11)]), (.lit (.i .u32) 0), (.lit (.i .u32) 255), (.conv .u32 (.var (.i .u8) 2)), (.conv .u32 (.var (.i .u8) 3))]
def en30' : Entry := ⟨30, 30, [.a ruleK], .one (.a fieldsK), fnOf T58 es30⟩
theorem ok30' : EntryOK Tryd.prog G0 en30' := evE_ok (N := 200) (n := 20) (by kernel_rfl) tok58 (by kernel_rfl)
def en30 : Entry := ⟨30, 30, [.a ruleK], .one (.a fieldsK), fun j xs => fieldsF (fun i => xs.getD i 0) j⟩
theorem lem30 : ∀ xs, fits (allKs en30'.ps) xs → outsE en30'.fn xs 0 en30'.rs.ks = outsE en30.fn xs 0 en30.rs.ks := by
  intro xs hx
  replace hx : fits [.i .u8, .i .u8, .i .u8, .i .u8, .i .u32, .i .u8, .i .u32, .i .u8, .i .u16, .i .u16, .i .u16, .i .u16, .b] xs := hx
  obtain ⟨a0, r0, rfl, h0, y0⟩ := fits_cons hx
  obtain ⟨a1, r1, rfl, h1, y1⟩ := fits_cons y0
  obtain ⟨a2, r2, rfl, h2, y2⟩ := fits_cons y1
  obtain ⟨a3, r3, rfl, h3, y3⟩ := fits_cons y2
  obtain ⟨a4, r4, rfl, h4, y4⟩ := fits_cons y3
  obtain ⟨a5, r5, rfl, h5, y5⟩ := fits_cons y4
  obtain ⟨a6, r6, rfl, h6, y6⟩ := fits_cons y5
  obtain ⟨a7, r7, rfl, h7, y7⟩ := fits_cons y6
  obtain ⟨a8, r8, rfl, h8, y8⟩ := fits_cons y7
  obtain ⟨a9, r9, rfl, h9, y9⟩ := fits_cons y8
  obtain ⟨a10, r10, rfl, h10, y10⟩ := fits_cons y9
  obtain ⟨a11, r11, rfl, h11, y11⟩ := fits_cons y10
  obtain ⟨a12, r12, rfl, h12, y12⟩ := fits_cons y11
  obtain rfl := fits_nil y12
  clear hx y0 y1 y2 y3 y4 y5 y6 y7 y8 y9 y10 y11 y12
  have q0 : 0 ≤ a0 ∧ a0 < 256 := rng8 h0
  have q1 : 0 ≤ a1 ∧ a1 < 256 := rng8 h1
  have q2 : 0 ≤ a2 ∧ a2 < 256 := rng8 h2
  have q3 : 0 ≤ a3 ∧ a3 < 256 := rng8 h3
  have q4 : 0 ≤ a4 ∧ a4 < 4294967296 := rng32 h4
  have q5 : 0 ≤ a5 ∧ a5 < 256 := rng8 h5
  have q6 : 0 ≤ a6 ∧ a6 < 4294967296 := rng32 h6
  have q7 : 0 ≤ a7 ∧ a7 < 256 := rng8 h7
  have q8 : 0 ≤ a8 ∧ a8 < 65536 := rng16 h8
  have q9 : 0 ≤ a9 ∧ a9 < 65536 := rng16 h9
  have q10 : 0 ≤ a10 ∧ a10 < 65536 := rng16 h10
  have q11 : 0 ≤ a11 ∧ a11 < 65536 := rng16 h11
  have F55 : ∀ j xs, T58.F 55 j xs = fnOf T26 es55 j xs := fun _ _ => rfl
  have F56 : ∀ j xs, T58.F 56 j xs = fnOf T55 es56 j xs := fun _ _ => rfl
  have F58 : ∀ j xs, T58.F 58 j xs = fnOf T56 es58 j xs := fun _ _ => rfl
  have F57 : ∀ xs, T55.F 57 0 xs = maskI (xs.getD 0 0) := fun _ => rfl
  have hm5 := mask_in a5 q5.1 (by omega)
  have hm7 := mask_in a7 q7.1 (by omega)
  show outsE (fnOf T58 es30) [a0, a1, a2, a3, a4, a5, a6, a7, a8, a9, a10, a11, a12] 0 fieldsK = outsE (fun j xs => fieldsF (fun i => xs.getD i 0) j) [a0, a1, a2, a3, a4, a5, a6, a7, a8, a9, a10, a11, a12] 0 fieldsK
  simp only [outsE, fieldsK, es30, es55, es56, es58, fnOf, E.den, E.denL, binI, dvI, shI, cmpB, List.getD_cons_zero, List.getD_cons_succ, i2b_b2i, norm_b2i, F55, F56, F57, F58, h0, h1, h2, h3, h4, h5, h6, h7, h8, h9, h10, h11, h12, Nat.zero_add, Nat.reduceAdd]
  simp only [norm_lit32, nrm32 hm5, nrm32 hm7, fieldsF, hiP, List.getD_cons_zero, List.getD_cons_succ, K.norm, wrap8, wrap32, Int.reduceMod]
  have e0 : a0 % 4294967296 = a0 := by omega
  have e1 : a1 % 4294967296 = a1 := by omega
  have e2 : a2 % 4294967296 = a2 := by omega
  have e3 : a3 % 4294967296 = a3 := by omega
  have e8 : a8 % 4294967296 = a8 := by omega
  have e9 : a9 % 4294967296 = a9 := by omega
  have e10 : a10 % 4294967296 = a10 := by omega
  have e11 : a11 % 4294967296 = a11 := by omega
  have e4 : a4 % 4294967296 = a4 := by omega
  have e6 : a6 % 4294967296 = a6 := by omega
  have e5 : maskI a5 % 4294967296 = maskI a5 := by omega
  have e7 : maskI a7 % 4294967296 = maskI a7 := by omega
  simp only [e0, e1, e2, e3, e4, e5, e6, e7, e8, e9, e10, e11, Int.emod_emod]
theorem ok30 : EntryOK Tryd.prog G0 en30 := ok30'.congr lem30
def T30 : Tabs := en30 :: T58
theorem tok30 : TabsOK Tryd.prog G0 T30 := .cons ok30 tok58

def es48 : List E :=
  [(.conv .u32 (.var (.i .u8) 0)), (.conv .u32 (.var (.i .u8) 1)), (.var (.i .u32) 2), (.var (.i .u32) 3), (.conv .u32 (.var (.i .u16) 4)), (.conv .u32 (.var (.i .u16) 5)), (.conv .u32 (.var (.i .u8) 7))]
def en48' : Entry := ⟨48, 48, [.s (.i .u8), .a factsK], .one (.a valuesK), fnOf T30 es48⟩
theorem ok48' : EntryOK Tryd.prog G0 en48' := evE_ok (N := 200) (n := 20) (by kernel_rfl) tok30 (by kernel_rfl)
def en48 : Entry := ⟨48, 48, [.s (.i .u8), .a factsK], .one (.a valuesK), fun j xs => valuesF (fun i => xs.getD i 0) j⟩
theorem lem48 : ∀ xs, fits (allKs en48'.ps) xs → outsE en48'.fn xs 0 en48'.rs.ks = outsE en48.fn xs 0 en48.rs.ks := by
  intro xs hx
  replace hx : fits [.i .u8, .i .u8, .i .u32, .i .u32, .i .u16, .i .u16, .i .u8, .i .u8, .i .u8, .i .u8, .i .u32, .i .u32, .i .i64, .i .i64, .i .u8, .i .u32, .i .u32, .i .u16, .i .u16, .i .u8] xs := hx
  obtain ⟨a0, r0, rfl, h0, y0⟩ := fits_cons hx
  obtain ⟨a1, r1, rfl, h1, y1⟩ := fits_cons y0
  obtain ⟨a2, r2, rfl, h2, y2⟩ := fits_cons y1
  obtain ⟨a3, r3, rfl, h3, y3⟩ := fits_cons y2
  obtain ⟨a4, r4, rfl, h4, y4⟩ := fits_cons y3
  obtain ⟨a5, r5, rfl, h5, y5⟩ := fits_cons y4
  obtain ⟨a6, r6, rfl, h6, y6⟩ := fits_cons y5
  obtain ⟨a7, r7, rfl, h7, y7⟩ := fits_cons y6
  obtain ⟨a8, r8, rfl, h8, y8⟩ := fits_cons y7
  obtain ⟨a9, r9, rfl, h9, y9⟩ := fits_cons y8
  obtain ⟨a10, r10, rfl, h10, y10⟩ := fits_cons y9
  obtain ⟨a11, r11, rfl, h11, y11⟩ := fits_cons y10
  obtain ⟨a12, r12, rfl, h12, y12⟩ := fits_cons y11
  obtain ⟨a13, r13, rfl, h13, y13⟩ := fits_cons y12
  obtain ⟨a14, r14, rfl, h14, y14⟩ := fits_cons y13
  obtain ⟨a15, r15, rfl, h15, y15⟩ := fits_cons y14
  obtain ⟨a16, r16, rfl, h16, y16⟩ := fits_cons y15
  obtain ⟨a17, r17, rfl, h17, y17⟩ := fits_cons y16
  obtain ⟨a18, r18, rfl, h18, y18⟩ := fits_cons y17
  obtain ⟨a19, r19, rfl, h19, y19⟩ := fits_cons y18
  obtain rfl := fits_nil y19
  clear hx y0 y1 y2 y3 y4 y5 y6 y7 y8 y9 y10 y11 y12 y13 y14 y15 y16 y17 y18 y19
  have q0 : 0 ≤ a0 ∧ a0 < 256 := rng8 h0
  have q1 : 0 ≤ a1 ∧ a1 < 256 := rng8 h1
  have q2 : 0 ≤ a2 ∧ a2 < 4294967296 := rng32 h2
  have q3 : 0 ≤ a3 ∧ a3 < 4294967296 := rng32 h3
  have q4 : 0 ≤ a4 ∧ a4 < 65536 := rng16 h4
  have q5 : 0 ≤ a5 ∧ a5 < 65536 := rng16 h5
  have q6 : 0 ≤ a6 ∧ a6 < 256 := rng8 h6
  have q7 : 0 ≤ a7 ∧ a7 < 256 := rng8 h7
  show outsE (fnOf T30 es48) [a0, a1, a2, a3, a4, a5, a6, a7, a8, a9, a10, a11, a12, a13, a14, a15, a16, a17, a18, a19] 0 valuesK = outsE (fun j xs => valuesF (fun i => xs.getD i 0) j) [a0, a1, a2, a3, a4, a5, a6, a7, a8, a9, a10, a11, a12, a13, a14, a15, a16, a17, a18, a19] 0 valuesK
  simp only [outsE, valuesK, es48, fnOf, E.den, E.denL, binI, dvI, shI, cmpB, List.getD_cons_zero, List.getD_cons_succ, i2b_b2i, norm_b2i, h0, h1, h2, h3, h4, h5, h6, h7, valuesF, Nat.zero_add, Nat.reduceAdd]
  simp only [K.norm, wrap32, Int.emod_emod]
theorem ok48 : EntryOK Tryd.prog G0 en48 := ok48'.congr lem48
def T48 : Tabs := en48 :: T30
theorem tok48 : TabsOK Tryd.prog G0 T48 := .cons ok48 tok30

def es50 : List E :=
  [(.and (.and (.cmp .leq (.var (.i .u32) 0) (.var (.i .u32) 4)) (.cmp .leq (.var (.i .u32) 4) (.var (.i .u32) 1))) (.cmp .eql (.bin .and .u32 (.var (.i .u32) 4) (.var (.i .u32) 2)) (.var (.i .u32) 3)))]
def en50' : Entry := ⟨50, 50, [.a [.i .u32, .i .u32, .i .u32, .i .u32], .s (.i .u32)], .one (.s (.b)), fnOf T48 es50⟩
theorem ok50' : EntryOK Tryd.prog G0 en50' := evE_ok (N := 200) (n := 20) (by kernel_rfl) tok48 (by kernel_rfl)
def en50 : Entry := ⟨50, 50, [.a [.i .u32, .i .u32, .i .u32, .i .u32], .s (.i .u32)], .one (.s (.b)), fun _ xs => b2i (hasB (xs.getD 4 0) (xs.getD 0 0) (xs.getD 1 0) (xs.getD 2 0) (xs.getD 3 0))⟩
theorem lem50 : ∀ xs, fits (allKs en50'.ps) xs → outsE en50'.fn xs 0 en50'.rs.ks = outsE en50.fn xs 0 en50.rs.ks := by
  intro xs hx
  replace hx : fits [.i .u32, .i .u32, .i .u32, .i .u32, .i .u32] xs := hx
  obtain ⟨a0, r0, rfl, h0, y0⟩ := fits_cons hx
  obtain ⟨a1, r1, rfl, h1, y1⟩ := fits_cons y0
  obtain ⟨a2, r2, rfl, h2, y2⟩ := fits_cons y1
  obtain ⟨a3, r3, rfl, h3, y3⟩ := fits_cons y2
  obtain ⟨a4, r4, rfl, h4, y4⟩ := fits_cons y3
  obtain rfl := fits_nil y4
  clear hx y0 y1 y2 y3 y4
  refine outs_one ?_
  show fnOf T48 es50 0 [a0, a1, a2, a3, a4] = b2i (hasB a4 a0 a1 a2 a3)
  simp only [es50, fnOf, E.den, E.denL, binI, dvI, shI, cmpB, List.getD_cons_zero, List.getD_cons_succ, i2b_b2i, norm_b2i, h0, h1, h2, h3, h4]
  rfl
theorem ok50 : EntryOK Tryd.prog G0 en50 := ok50'.congr lem50
def T50 : Tabs := en50 :: T48
theorem tok50 : TabsOK Tryd.prog G0 T50 := .cons ok50 tok48

def es49 : List E :=
  [(.app .b 50 0 [(.var (.i .u32) 1), (.var (.i .u32) 2), (.var (.i .u32) 3), (.var (.i .u32) 4), (.var (.i .u32) 0)])]
def en49' : Entry := ⟨49, 49, [.s (.i .u32), .a [.i .u32, .i .u32, .i .u32, .i .u32]], .one (.s (.b)), fnOf T50 es49⟩
theorem ok49' : EntryOK Tryd.prog G0 en49' := evE_ok (N := 200) (n := 20) (by kernel_rfl) tok50 (by kernel_rfl)
def en49 : Entry := ⟨49, 49, [.s (.i .u32), .a [.i .u32, .i .u32, .i .u32, .i .u32]], .one (.s (.b)), fun _ xs => b2i (hasB (xs.getD 0 0) (xs.getD 1 0) (xs.getD 2 0) (xs.getD 3 0) (xs.getD 4 0))⟩
theorem lem49 : ∀ xs, fits (allKs en49'.ps) xs → outsE en49'.fn xs 0 en49'.rs.ks = outsE en49.fn xs 0 en49.rs.ks := by
  intro xs hx
  replace hx : fits [.i .u32, .i .u32, .i .u32, .i .u32, .i .u32] xs := hx
  obtain ⟨a0, r0, rfl, h0, y0⟩ := fits_cons hx
  obtain ⟨a1, r1, rfl, h1, y1⟩ := fits_cons y0
  obtain ⟨a2, r2, rfl, h2, y2⟩ := fits_cons y1
  obtain ⟨a3, r3, rfl, h3, y3⟩ := fits_cons y2
  obtain ⟨a4, r4, rfl, h4, y4⟩ := fits_cons y3
  obtain rfl := fits_nil y4
  clear hx y0 y1 y2 y3 y4
  refine outs_one ?_
  show fnOf T50 es49 0 [a0, a1, a2, a3, a4] = b2i (hasB a0 a1 a2 a3 a4)
  have F50 : ∀ xs, T50.F 50 0 xs = b2i (hasB (xs.getD 4 0) (xs.getD 0 0) (xs.getD 1 0) (xs.getD 2 0) (xs.getD 3 0)) := fun _ => rfl
  simp only [es49, fnOf, E.den, E.denL, binI, dvI, shI, cmpB, List.getD_cons_zero, List.getD_cons_succ, i2b_b2i, norm_b2i, F50, h0, h1, h2, h3, h4]
theorem ok49 : EntryOK Tryd.prog G0 en49 := ok49'.congr lem49
def T49 : Tabs := en49 :: T50
theorem tok49 : TabsOK Tryd.prog G0 T49 := .cons ok49 tok50

def es147 : List E :=
  [(.not (.or (.not (.app .b 49 0 [(.var (.i .u32) 0), (.var (.i .u32) 7), (.var (.i .u32) 8), (.var (.i .u32) 9), (.var (.i .u32) 10)])) (.and (.app .b 49 0 [(.var (.i .u32) 0), (.var (.i .u32) 7), (.var (.i .u32) 8), (.var (.i .u32) 9),
    (.var (.i .u32) 10)]) (.or (.not (.app .b 49 0 [(.var (.i .u32) 1), (.var (.i .u32) 11), (.var (.i .u32) 12), (.var (.i .u32) 13), (.var (.i .u32) 14)])) (.and (.app .b 49 0 [(.var (.i .u32) 1), (.var (.i .u32) 11), (.var (.i .u32) 12),
    (.var (.i .u32) 13), (.var (.i .u32) 14)]) (.or (.not (.app .b 49 0 [(.var (.i .u32) 2), (.var (.i .u32) 15), (.var (.i .u32) 16), (.var (.i .u32) 17), (.var (.i .u32) 18)])) (.and (.app .b 49 0 [(.var (.i .u32) 2), (.var (.i .u32) 15),
    (.var (.i .u32) 16), (.var (.i .u32) 17), (.var (.i .u32) 18)]) (.or (.not (.app .b 49 0 [(.var (.i .u32) 3), (.var (.i .u32) 19), (.var (.i .u32) 20), (.var (.i .u32) 21), (.var (.i .u32) 22)])) (.and (.app .b 49 0 [(.var (.i .u32) 3),
    (.var (.i .u32) 19), (.var (.i .u32) 20), (.var (.i .u32) 21), (.var (.i .u32) 22)]) (.or (.not (.app .b 49 0 [(.var (.i .u32) 4), (.var (.i .u32) 23), (.var (.i .u32) 24), (.var (.i .u32) 25), (.var (.i .u32) 26)])) (.and (.app .b 49 0
    [(.var (.i .u32) 4), (.var (.i .u32) 23), (.var (.i .u32) 24), (.var (.i .u32) 25), (.var (.i .u32) 26)]) (.or (.not (.app .b 49 0 [(.var (.i .u32) 5), (.var (.i .u32) 27), (.var (.i .u32) 28), (.var (.i .u32) 29), (.var (.i .u32) 30)]))
    (.and (.app .b 49 0 [(.var (.i .u32) 5), (.var (.i .u32) 27), (.var (.i .u32) 28), (.var (.i .u32) 29), (.var (.i .u32) 30)]) (.not (.app .b 49 0 [(.var (.i .u32) 6), (.var (.i .u32) 31), (.var (.i .u32) 32), (.var (.i .u32) 33), (.var (.i
    .u32) 34)])))))))))))))))]
def en147' : Entry := ⟨147, 47, [.a valuesK, .a fieldsK, .c 49], .one (.s (.b)), fnOf T49 es147⟩
theorem ok147' : EntryOK Tryd.prog G0 en147' := evE_ok (N := 200) (n := 20) (by kernel_rfl) tok49 (by kernel_rfl)
def en147 : Entry := ⟨147, 47, [.a valuesK, .a fieldsK, .c 49], .one (.s (.b)), fun _ xs => b2i (all7 fun i => xs.getD i 0)⟩
theorem lem147 : ∀ xs, fits (allKs en147'.ps) xs → outsE en147'.fn xs 0 en147'.rs.ks = outsE en147.fn xs 0 en147.rs.ks := by
  intro xs hx
  replace hx : fits [.i .u32, .i .u32, .i .u32, .i .u32, .i .u32, .i .u32, .i .u32, .i .u32, .i .u32, .i .u32, .i .u32, .i .u32, .i .u32, .i .u32, .i .u32, .i .u32, .i .u32, .i .u32, .i .u32, .i .u32, .i .u32, .i .u32, .i .u32, .i .u32, .i .u32, .i .u32, .i .u32, .i .u32, .i .u32, .i .u32, .i .u32, .i .u32, .i .u32, .i .u32, .i .u32] xs := hx
  obtain ⟨a0, r0, rfl, h0, y0⟩ := fits_cons hx
  obtain ⟨a1, r1, rfl, h1, y1⟩ := fits_cons y0
  obtain ⟨a2, r2, rfl, h2, y2⟩ := fits_cons y1
  obtain ⟨a3, r3, rfl, h3, y3⟩ := fits_cons y2
  obtain ⟨a4, r4, rfl, h4, y4⟩ := fits_cons y3
  obtain ⟨a5, r5, rfl, h5, y5⟩ := fits_cons y4
  obtain ⟨a6, r6, rfl, h6, y6⟩ := fits_cons y5
  obtain ⟨a7, r7, rfl, h7, y7⟩ := fits_cons y6
  obtain ⟨a8, r8, rfl, h8, y8⟩ := fits_cons y7
  obtain ⟨a9, r9, rfl, h9, y9⟩ := fits_cons y8
  obtain ⟨a10, r10, rfl, h10, y10⟩ := fits_cons y9
  obtain ⟨a11, r11, rfl, h11, y11⟩ := fits_cons y10
  obtain ⟨a12, r12, rfl, h12, y12⟩ := fits_cons y11
  obtain ⟨a13, r13, rfl, h13, y13⟩ := fits_cons y12
  obtain ⟨a14, r14, rfl, h14, y14⟩ := fits_cons y13
  obtain ⟨a15, r15, rfl, h15, y15⟩ := fits_cons y14
  obtain ⟨a16, r16, rfl, h16, y16⟩ := fits_cons y15
  obtain ⟨a17, r17, rfl, h17, y17⟩ := fits_cons y16
  obtain ⟨a18, r18, rfl, h18, y18⟩ := fits_cons y17
  obtain ⟨a19, r19, rfl, h19, y19⟩ := fits_cons y18
  obtain ⟨a20, r20, rfl, h20, y20⟩ := fits_cons y19
  obtain ⟨a21, r21, rfl, h21, y21⟩ := fits_cons y20
  obtain ⟨a22, r22, rfl, h22, y22⟩ := fits_cons y21
  obtain ⟨a23, r23, rfl, h23, y23⟩ := fits_cons y22
  obtain ⟨a24, r24, rfl, h24, y24⟩ := fits_cons y23
  obtain ⟨a25, r25, rfl, h25, y25⟩ := fits_cons y24
  obtain ⟨a26, r26, rfl, h26, y26⟩ := fits_cons y25
  obtain ⟨a27, r27, rfl, h27, y27⟩ := fits_cons y26
  obtain ⟨a28, r28, rfl, h28, y28⟩ := fits_cons y27
  obtain ⟨a29, r29, rfl, h29, y29⟩ := fits_cons y28
  obtain ⟨a30, r30, rfl, h30, y30⟩ := fits_cons y29
  obtain ⟨a31, r31, rfl, h31, y31⟩ := fits_cons y30
  obtain ⟨a32, r32, rfl, h32, y32⟩ := fits_cons y31
  obtain ⟨a33, r33, rfl, h33, y33⟩ := fits_cons y32
  obtain ⟨a34, r34, rfl, h34, y34⟩ := fits_cons y33
  obtain rfl := fits_nil y34
  clear hx y0 y1 y2 y3 y4 y5 y6 y7 y8 y9 y10 y11 y12 y13 y14 y15 y16 y17 y18 y19 y20 y21 y22 y23 y24 y25 y26 y27 y28 y29 y30 y31 y32 y33 y34
  refine outs_one ?_
  show fnOf T49 es147 0 [a0, a1, a2, a3, a4, a5, a6, a7, a8, a9, a10, a11, a12, a13, a14, a15, a16, a17, a18, a19, a20, a21, a22, a23, a24, a25, a26, a27, a28, a29, a30, a31, a32, a33, a34] = b2i (all7 fun i => [a0, a1, a2, a3, a4, a5, a6, a7, a8, a9, a10, a11, a12, a13, a14, a15, a16, a17, a18, a19, a20, a21, a22, a23, a24, a25, a26, a27, a28, a29, a30, a31, a32, a33, a34].getD i 0)
  have F49 : ∀ xs, T49.F 49 0 xs = b2i (hasB (xs.getD 0 0) (xs.getD 1 0) (xs.getD 2 0) (xs.getD 3 0) (xs.getD 4 0)) := fun _ => rfl
  simp only [es147, fnOf, E.den, E.denL, binI, dvI, shI, cmpB, List.getD_cons_zero, List.getD_cons_succ, i2b_b2i, norm_b2i, F49, h0, h1, h2, h3, h4, h5, h6, h7, h8, h9, h10, h11, h12, h13, h14, h15, h16, h17, h18, h19, h20, h21, h22, h23, h24, h25, h26, h27, h28, h29, h30, h31, h32, h33, h34, all7]
  congr 1
  simp only [orn']
  simp only [Bool.not_or, Bool.not_not, Bool.and_assoc]
theorem ok147 : EntryOK Tryd.prog G0 en147 := ok147'.congr lem147
def T147 : Tabs := en147 :: T49
theorem tok147 : TabsOK Tryd.prog G0 T147 := .cons ok147 tok49

def es24 : List E :=
  [(.and (.app .b 17 0 [(.var (.i .u8) 0), (.var (.i .u8) 1), (.var (.i .u8) 2), (.var (.i .u8) 3), (.var (.i .u32) 4), (.var (.i .u8) 5), (.var (.i .u32) 6), (.var (.i .u8) 7), (.var (.i .u16) 8), (.var (.i .u16) 9), (.var (.i .u16) 10),
    (.var (.i .u16) 11), (.var .b 12)]) (.and (.not (.or (.cmp .gtr (.var (.i .u8) 13) (.lit (.i .u8) 1)) (.and (.and (.cmp .neq (.var (.i .u8) 14) (.lit (.i .u8) 1)) (.cmp .neq (.var (.i .u8) 14) (.lit (.i .u8) 6))) (.cmp .neq (.var (.i .u8)
    14) (.lit (.i .u8) 17))))) (.app .b 147 0 [(.app (.i .u32) 48 0 [(.var (.i .u8) 13), (.var (.i .u8) 14), (.var (.i .u32) 15), (.var (.i .u32) 16), (.var (.i .u16) 17), (.var (.i .u16) 18), (.var (.i .u8) 19), (.var (.i .u8) 20), (.var (.i
    .u8) 21), (.var (.i .u8) 22), (.var (.i .u32) 23), (.var (.i .u32) 24), (.var (.i .i64) 25), (.var (.i .i64) 26), (.var (.i .u8) 27), (.var (.i .u32) 28), (.var (.i .u32) 29), (.var (.i .u16) 30), (.var (.i .u16) 31), (.var (.i .u8) 32)]),
    (.app (.i .u32) 48 1 [(.var (.i .u8) 13), (.var (.i .u8) 14), (.var (.i .u32) 15), (.var (.i .u32) 16), (.var (.i .u16) 17), (.var (.i .u16) 18), (.var (.i .u8) 19), (.var (.i .u8) 20), (.var (.i .u8) 21), (.var (.i .u8) 22), (.var (.i
    .u32) 23), (.var (.i .u32) 24), (.var (.i .i64) 25), (.var (.i .i64) 26), (.var (.i .u8) 27), (.var (.i .u32) 28), (.var (.i .u32) 29), (.var (.i .u16) 30), (.var (.i .u16) 31), (.var (.i .u8) 32)]), (.app (.i .u32) 48 2 [(.var (.i .u8)
    13), (.var (.i .u8) 14), (.var (.i .u32) 15), (.var (.i .u32) 16), (.var (.i .u16) 17), (.var (.i .u16) 18), (.var (.i .u8) 19), (.var (.i .u8) 20), (.var (.i .u8) 21), (.var (.i .u8) 22), (.var (.i .u32) 23), (.var (.i .u32) 24), (.var (.i
    .i64) 25), (.var (.i .i64) 26), (.var (.i .u8) 27), (.var (.i .u32) 28), (.var (.i .u32) 29), (.var (.i .u16) 30), (.var (.i .u16) 31), (.var (.i .u8) 32)]), (.app (.i .u32) 48 3 [(.var (.i .u8) 13), (.var (.i .u8) 14), (.var (.i .u32) 15),
    (.var (.i .u32) 16), (.var (.i .u16) 17), (.var (.i .u16) 18), (.var (.i .u8) 19), (.var (.i .u8) 20), (.var (.i .u8) 21), (.var (.i .u8) 22), (.var (.i .u32) 23), (.var (.i .u32) 24), (.var (.i .i64) 25), (.var (.i .i64) 26), (.var (.i
    .u8) 27), (.var (.i .u32) 28), (.var (.i .u32) 29), (.var (.i .u16) 30), (.var (.i .u16) 31), (.var (.i .u8) 32)]), (.app (.i .u32) 48 4 [(.var (.i .u8) 13), (.var (.i .u8) 14), (.var (.i .u32) 15), (.var (.i .u32) 16), (.var (.i .u16) 17),
    (.var (.i .u16) 18), (.var (.i .u8) 19), (.var (.i .u8) 20), (.var (.i .u8) 21), (.var (.i .u8) 22), (.var (.i .u32) 23), (.var (.i .u32) 24), (.var (.i .i64) 25), (.var (.i .i64) 26), (.var (.i .u8) 27), (.var (.i .u32) 28), (.var (.i
    .u32) 29), (.var (.i .u16) 30), (.var (.i .u16) 31), (.var (.i .u8) 32)]), (.app (.i .u32) 48 5 [(.var (.i .u8) 13), (.var (.i .u8) 14), (.var (.i .u32) 15), (.var (.i .u32) 16), (.var (.i .u16) 17), (.var (.i .u16) 18), (.var (.i .u8) 19),
    (.var (.i .u8) 20), (.var (.i .u8) 21), (.var (.i .u8) 22), (.var (.i .u32) 23), (.var (.i .u32) 24), (.var (.i .i64) 25), (.var (.i .i64) 26), (.var (.i .u8) 27), (.var (.i .u32) 28), (.var (.i .u32) 29), (.var (.i .u16) 30), (.var (.i
    .u16) 31), (.var (.i .u8) 32)]), (.app (.i .u32) 48 6 [(.var (.i .u8) 13), (.var (.i .u8) 14), (.var (.i .u32) 15), (.var (.i .u32) 16), (.var (.i .u16) 17), (.var (.i .u16) 18), (.var (.i .u8) 19), (.var (.i .u8) 20), (.var (.i .u8) 21),
    (.var (.i .u8) 22), (.var (.i .u32) 23), (.var (.i .u32) 24), (.var (.i .i64) 25), (.var (.i .i64) 26), (.var (.i .u8) 27), (.var (.i .u32) 28), (.var (.i .u32) 29), (.var (.i .u16) 30), (.var (.i .u16) 31), (.var (.i .u8) 32)]), (.app (.i
    .u32) 30 0 [(.var (.i .u8) 0), (.var (.i .u8) 1), (.var (.i .u8) 2), (.var (.i .u8) 3), (.var (.i .u32) 4), (.var (.i .u8) 5), (.var (.i .u32) 6), (.var (.i .u8) 7), (.var (.i .u16) 8), (.var (.i .u16) 9), (.var (.i .u16) 10), (.var (.i
    .u16) 11), (.var .b 12)]), (.app (.i .u32) 30 1 [(.var (.i .u8) 0), (.var (.i .u8) 1), (.var (.i .u8) 2), (.var (.i .u8) 3), (.var (.i .u32) 4), (.var (.i .u8) 5), (.var (.i .u32) 6), (.var (.i .u8) 7), (.var (.i .u16) 8), (.var (.i .u16)
    9), (.var (.i .u16) 10), (.var (.i .u16) 11), (.var .b 12)]), (.app (.i .u32) 30 2 [(.var (.i .u8) 0), (.var (.i .u8) 1), (.var (.i .u8) 2), (.var (.i .u8) 3), (.var (.i .u32) 4), (.var (.i .u8) 5), (.var (.i .u32) 6), (.var (.i .u8) 7),
    (.var (.i .u16) 8), (.var (.i .u16) 9), (.var (.i .u16) 10), (.var (.i .u16) 11), (.var .b 12)]), (.app (.i .u32) 30 3 [(.var (.i .u8) 0), (.var (.i .u8) 1), (.var (.i .u8) 2), (.var (.i .u8) 3), (.var (.i .u32) 4), (.var (.i .u8) 5), (.var
    (.i .u32) 6), (.var (.i .u8) 7), (.var (.i .u16) 8), (.var (.i .u16) 9), (.var (.i .u16) 10), (.var (.i .u16) 11), (.var .b 12)]), (.app (.i .u32) 30 4 [(.var (.i .u8) 0), (.var (.i .u8) 1), (.var (.i .u8) 2), (.var (.i .u8) 3), (.var (.i
    .u32) 4), (.var (.i .u8) 5), (.var (.i .u32) 6), (.var (.i .u8) 7), (.var (.i .u16) 8), (.var (.i .u16) 9), (.var (.i .u16) 10), (.var (.i .u16) 11), (.var .b 12)]), (.app (.i .u32) 30 5 [(.var (.i .u8) 0), (.var (.i .u8) 1), (.var (.i .u8)
    2), (.var (.i .u8) 3), (.var (.i .u32) 4), (.var (.i .u8) 5), (.var (.i .u32) 6), (.var (.i .u8) 7), (.var (.i .u16) 8), (.var (.i .u16) 9), (.var (.i .u16) 10), (.var (.i .u16) 11), (.var .b 12)]), (.app (.i .u32) 30 6 [(.var (.i .u8) 0),
    (.var (.i .u8) 1), (.var (.i .u8) 2), (.var (.i .u8) 3), (.var (.i .u32) 4), (.var (.i .u8) 5), (.var (.i .u32) 6), (.var (.i .u8) 7), (.var (.i .u16) 8), (.var (.i .u16) 9), (.var (.i .u16) 10), (.var (.i .u16) 11), (.var .b 12)]), (.app
    (.i .u32) 30 7 [(.var (.i .u8) 0), (.var (.i .u8) 1), (.var (.i .u8) 2), (.var (.i .u8) 3), (.var (.i .u32) 4), (.var (.i .u8) 5), (.var (.i .u32) 6), (.var (.i .u8) 7), (.var (.i .u16) 8), (.var (.i .u16) 9), (.var (.i .u16) 10), (.var (.i
    .u16) 11), (.var .b 12)]), (.app (.i .u32) 30 8 [(.var (.i .u8) 0), (.var (.i .u8) 1), (.var (.i .u8) 2), (.var (.i .u8) 3), (.var (.i .u32) 4), (.var (.i .u8) 5), (.var (.i .u32) 6), (.var (.i .u8) 7), (.var (.i .u16) 8), (.var (.i .u16)
    9), (.var (.i .u16) 10), (.var (.i .u16) 11), (.var .b 12)]), (.app (.i .u32) 30 9 [(.var (.i .u8) 0), (.var (.i .u8) 1), (.var (.i .u8) 2), (.var (.i .u8) 3), (.var (.i .u32) 4), (.var (.i .u8) 5), (.var (.i .u32) 6), (.var (.i .u8) 7),
    (.var (.i .u16) 8), (.var (.i .u16) 9), (.var (.i .u16) 10), (.var (.i .u16) 11), (.var .b 12)]), (.app (.i .u32) 30 10 [(.var (.i .u8) 0), (.var (.i .u8) 1), (.var (.i .u8) 2), (.var (.i .u8) 3), (.var (.i .u32) 4), (.var (.i .u8) 5),
    (.var (.i .u32) 6), (.var (.i .u8) 7), (.var (.i .u16) 8), (.var (.i .u16) 9), (.var (.i .u16) 10), (.var (.i .u16) 11), (.var .b 12)]), (.app (.i .u32) 30 11 [(.var (.i .u8) 0), (.var (.i .u8) 1), (.var (.i .u8) 2), (.var (.i .u8) 3),
    (.var (.i .u32) 4), (.var (.i .u8) 5), (.var (.i .u32) 6), (.var (.i .u8) 7), (.var (.i .u16) 8), (.var (.i .u16) 9), (.var (.i .u16) 10), (.var (.i .u16) 11), (.var .b 12)]), (.app (.i .u32) 30 12 [(.var (.i .u8) 0), (.var (.i .u8) 1),
    (.var (.i .u8) 2), (.var (.i .u8) 3), (.var (.i .u32) 4), (.var (.i .u8) 5), (.var (.i .u32) 6), (.var (.i .u8) 7), (.var (.i .u16) 8), (.var (.i .u16) 9), (.var (.i .u16) 10), (.var (.i .u16) 11), (.var .b 12)]), (.app (.i .u32) 30 13
    [(.var (.i .u8) 0), (.var (.i .u8) 1), (.var (.i .u8) 2), (.var (.i .u8) 3), (.var (.i .u32) 4), (.var (.i .u8) 5), (.var (.i .u32) 6), (.var (.i .u8) 7), (.var (.i .u16) 8), (.var (.i .u16) 9), (.var (.i .u16) 10), (.var (.i .u16) 11),
    (.var .b 12)]), (.app (.i .u32) 30 14 [(.var (.i .u8) 0), (.var (.i .u8) 1), (.var (.i .u8) 2), (.var (.i .u8) 3), (.var (.i .u32) 4), (.var (.i .u8) 5), (.var (.i .u32) 6), (.var (.i .u8) 7), (.var (.i .u16) 8), (.var (.i .u16) 9), (.var
    (.i .u16) 10), (.var (.i .u16) 11), (.var .b 12)]), (.app (.i .u32) 30 15 [(.var (.i .u8) 0), (.var (.i .u8) 1), (.var (.i .u8) 2), (.var (.i .u8) 3), (.var (.i .u32) 4), (.var (.i .u8) 5), (.var (.i .u32) 6), (.var (.i .u8) 7), (.var (.i
    .u16) 8), (.var (.i .u16) 9), (.var (.i .u16) 10), (.var (.i .u16) 11), (.var .b 12)]), (.app (.i .u32) 30 16 [(.var (.i .u8) 0), (.var (.i .u8) 1), (.var (.i .u8) 2), (.var (.i .u8) 3), (.var (.i .u32) 4), (.var (.i .u8) 5), (.var (.i
    .u32) 6), (.var (.i .u8) 7), (.var (.i .u16) 8), (.var (.i .u16) 9), (.var (.i .u16) 10), (.var (.i .u16) 11), (.var .b 12)]), (.app (.i .u32) 30 17 [(.var (.i .u8) 0), (.var (.i .u8) 1), (.var (.i .u8) 2), (.var (.i .u8) 3), (.var (.i
    .u32) 4), (.var (.i .u8) 5), (.var (.i .u32) 6), (.var (.i .u8) 7), (.var (.i .u16) 8), (.var (.i .u16) 9), (.var (.i .u16) 10), (.var (.i .u16) 11), (.var .b 12)]), (.app (.i .u32) 30 18 [(.var (.i .u8) 0), (.var (.i .u8) 1), (.var (.i
    .u8) 2), (.var (.i .u8) 3), (.var (.i .u32) 4), (.var (.i .u8) 5), (.var (.i .u32) 6), (.var (.i .u8) 7), (.var (.i .u16) 8), (.var (.i .u16) 9), (.var (.i .u16) 10), (.var (.i .u16) 11), (.var .b 12)]), (.app (.i .u32) 30 19 [(.var (.i
    .u8) 0), (.var (.i .u8) 1), (.var (.i .u8) 2), (.var (.i .u8) 3), (.var (.i .u32) 4), (.var (.i .u8) 5), (.var (.i .u32) 6), (.var (.i .u8) 7), (.var (.i .u16) 8), (.var (.i .u16) 9), (.var (.i .u16) 10), (.var (.i .u16) 11), (.var .b
    12)]), (.app (.i .u32) 30 20 [(.var (.i .u8) 0), (.var (.i .u8) 1), (.var (.i .u8) 2), (.var (.i .u8) 3), (.var (.i .u32) 4), (.var (.i .u8) 5), (.var (.i .u32) 6), (.var (.i .u8) 7), (.var (.i .u16) 8), (.var (.i .u16) 9), (.var (.i .u16)
    10), (.var (.i .u16) 11), (.var .b 12)]), (.app (.i .u32) 30 21 [(.var (.i .u8) 0), (.var (.i .u8) 1), (.var (.i .u8) 2), (.var (.i .u8) 3), (.var (.i .u32) 4), (.var (.i .u8) 5), (.var (.i .u32) 6), (.var (.i .u8) 7), (.var (.i .u16) 8),
    (.var (.i .u16) 9), (.var (.i .u16) 10), (.var (.i .u16) 11), (.var .b 12)]), (.app (.i .u32) 30 22 [(.var (.i .u8) 0), (.var (.i .u8) 1), (.var (.i .u8) 2), (.var (.i .u8) 3), (.var (.i .u32) 4), (.var (.i .u8) 5), (.var (.i .u32) 6),
    (.var (.i .u8) 7), (.var (.i .u16) 8), (.var (.i .u16) 9), (.var (.i .u16) 10), (.var (.i .u16) 11), (.var .b 12)]), (.app (.i .u32) 30 23 [(.var (.i .u8) 0), (.var (.i .u8) 1), (.var (.i .u8) 2), (.var (.i .u8) 3), (.var (.i .u32) 4),
    (.var (.i .u8) 5), (.var (.i .u32) 6), (.var (.i .u8) 7), (.var (.i .u16) 8), (.var (.i .u16) 9), (.var (.i .u16) 10), (.var (.i .u16) 11), (.var .b 12)]), (.app (.i .u32) 30 24 [(.var (.i .u8) 0), (.var (.i .u8) 1), (.var (.i .u8) 2),
    (.var (.i .u8) 3), (.var (.i .u32) 4), (.var (.i .u8) 5), (.var (.i .u32) 6), (.var (.i .u8) 7), (.var (.i .u16) 8), (.var (.i .u16) 9), (.var (.i .u16) 10), (.var (.i .u16) 11), (.var .b 12)]), (.app (.i .u32) 30 25 [(.var (.i .u8) 0),
    (.var (.i .u8) 1), (.var (.i .u8) 2), (.var (.i .u8) 3), (.var (.i .u32) 4), (.var (.i .u8) 5), (.var (.i .u32) 6), (.var (.i .u8) 7), (.var (.i .u16) 8), (.var (.i .u16) 9), (.var (.i .u16) 10), (.var (.i .u16) 11), (.var .b 12)]), (.app
    (.i .u32) 30 26 [(.var (.i .u8) 0), (.var (.i .u8) 1), (.var (.i .u8) 2), (.var (.i .u8) 3), (.var (.i .u32) 4), (.var (.i .u8) 5), (.var (.i .u32) 6), (.var (.i .u8) 7), (.var (.i .u16) 8), (.var (.i .u16) 9), (.var (.i .u16) 10), (.var
    (.i .u16) 11), (.var .b 12)]), (.app (.i .u32) 30 27 [(.var (.i .u8) 0), (.var (.i .u8) 1), (.var (.i .u8) 2), (.var (.i .u8) 3), (.var (.i .u32) 4), (.var (.i .u8) 5), (.var (.i .u32) 6), (.var (.i .u8) 7), (.var (.i .u16) 8), (.var (.i
    .u16) 9), (.var (.i .u16) 10), (.var (.i .u16) 11), (.var .b 12)])]))), (.ite (.not (.app .b 17 0 [(.var (.i .u8) 0), (.var (.i .u8) 1), (.var (.i .u8) 2), (.var (.i .u8) 3), (.var (.i .u32) 4), (.var (.i .u8) 5), (.var (.i .u32) 6), (.var
    (.i .u8) 7), (.var (.i .u16) 8), (.var (.i .u16) 9), (.var (.i .u16) 10), (.var (.i .u16) 11), (.var .b 12)])) (.lit (.i .i64) 260) (.ite (.or (.cmp .gtr (.var (.i .u8) 13) (.lit (.i .u8) 1)) (.and (.and (.cmp .neq (.var (.i .u8) 14) (.lit
    (.i .u8) 1)) (.cmp .neq (.var (.i .u8) 14) (.lit (.i .u8) 6))) (.cmp .neq (.var (.i .u8) 14) (.lit (.i .u8) 17)))) (.lit (.i .i64) 261) (.lit (.i .i64) 0)))]
def en24' : Entry := ⟨24, 24, [.a ruleK, .s (.i .u8), .a factsK], .tup [.s (.b), .s (.i .i64)], fnOf T147 es24⟩
theorem ok24' : EntryOK Tryd.prog G0 en24' := evE_ok (N := 200) (n := 20) (by kernel_rfl) tok147 (by kernel_rfl)
def en24 : Entry := ⟨24, 24, [.a ruleK, .s (.i .u8), .a factsK], .tup [.s (.b), .s (.i .i64)], fun j xs => match j with | 0 => b2i (matF fun i => xs.getD i 0) | _ => matE fun i => xs.getD i 0⟩
theorem lem24 : ∀ xs, fits (allKs en24'.ps) xs → outsE en24'.fn xs 0 en24'.rs.ks = outsE en24.fn xs 0 en24.rs.ks := by
  intro xs hx
  replace hx : fits [.i .u8, .i .u8, .i .u8, .i .u8, .i .u32, .i .u8, .i .u32, .i .u8, .i .u16, .i .u16, .i .u16, .i .u16, .b, .i .u8, .i .u8, .i .u32, .i .u32, .i .u16, .i .u16, .i .u8, .i .u8, .i .u8, .i .u8, .i .u32, .i .u32, .i .i64, .i .i64, .i .u8, .i .u32, .i .u32, .i .u16, .i .u16, .i .u8] xs := hx
  obtain ⟨a0, r0, rfl, h0, y0⟩ := fits_cons hx
  obtain ⟨a1, r1, rfl, h1, y1⟩ := fits_cons y0
  obtain ⟨a2, r2, rfl, h2, y2⟩ := fits_cons y1
  obtain ⟨a3, r3, rfl, h3, y3⟩ := fits_cons y2
  obtain ⟨a4, r4, rfl, h4, y4⟩ := fits_cons y3
  obtain ⟨a5, r5, rfl, h5, y5⟩ := fits_cons y4
  obtain ⟨a6, r6, rfl, h6, y6⟩ := fits_cons y5
  obtain ⟨a7, r7, rfl, h7, y7⟩ := fits_cons y6
  obtain ⟨a8, r8, rfl, h8, y8⟩ := fits_cons y7
  obtain ⟨a9, r9, rfl, h9, y9⟩ := fits_cons y8
  obtain ⟨a10, r10, rfl, h10, y10⟩ := fits_cons y9
  obtain ⟨a11, r11, rfl, h11, y11⟩ := fits_cons y10
  obtain ⟨a12, r12, rfl, h12, y12⟩ := fits_cons y11
  obtain ⟨a13, r13, rfl, h13, y13⟩ := fits_cons y12
  obtain ⟨a14, r14, rfl, h14, y14⟩ := fits_cons y13
  obtain ⟨a15, r15, rfl, h15, y15⟩ := fits_cons y14
  obtain ⟨a16, r16, rfl, h16, y16⟩ := fits_cons y15
  obtain ⟨a17, r17, rfl, h17, y17⟩ := fits_cons y16
  obtain ⟨a18, r18, rfl, h18, y18⟩ := fits_cons y17
  obtain ⟨a19, r19, rfl, h19, y19⟩ := fits_cons y18
  obtain ⟨a20, r20, rfl, h20, y20⟩ := fits_cons y19
  obtain ⟨a21, r21, rfl, h21, y21⟩ := fits_cons y20
  obtain ⟨a22, r22, rfl, h22, y22⟩ := fits_cons y21
  obtain ⟨a23, r23, rfl, h23, y23⟩ := fits_cons y22
  obtain ⟨a24, r24, rfl, h24, y24⟩ := fits_cons y23
  obtain ⟨a25, r25, rfl, h25, y25⟩ := fits_cons y24
  obtain ⟨a26, r26, rfl, h26, y26⟩ := fits_cons y25
  obtain ⟨a27, r27, rfl, h27, y27⟩ := fits_cons y26
  obtain ⟨a28, r28, rfl, h28, y28⟩ := fits_cons y27
  obtain ⟨a29, r29, rfl, h29, y29⟩ := fits_cons y28
  obtain ⟨a30, r30, rfl, h30, y30⟩ := fits_cons y29
  obtain ⟨a31, r31, rfl, h31, y31⟩ := fits_cons y30
  obtain ⟨a32, r32, rfl, h32, y32⟩ := fits_cons y31
  obtain rfl := fits_nil y32
  clear hx y0 y1 y2 y3 y4 y5 y6 y7 y8 y9 y10 y11 y12 y13 y14 y15 y16 y17 y18 y19 y20 y21 y22 y23 y24 y25 y26 y27 y28 y29 y30 y31 y32
  have q0 : 0 ≤ a0 ∧ a0 < 256 := rng8 h0
  have q1 : 0 ≤ a1 ∧ a1 < 256 := rng8 h1
  have q2 : 0 ≤ a2 ∧ a2 < 256 := rng8 h2
  have q3 : 0 ≤ a3 ∧ a3 < 256 := rng8 h3
  have q4 : 0 ≤ a4 ∧ a4 < 4294967296 := rng32 h4
  have q5 : 0 ≤ a5 ∧ a5 < 256 := rng8 h5
  have q6 : 0 ≤ a6 ∧ a6 < 4294967296 := rng32 h6
  have q7 : 0 ≤ a7 ∧ a7 < 256 := rng8 h7
  have q8 : 0 ≤ a8 ∧ a8 < 65536 := rng16 h8
  have q9 : 0 ≤ a9 ∧ a9 < 65536 := rng16 h9
  have q10 : 0 ≤ a10 ∧ a10 < 65536 := rng16 h10
  have q11 : 0 ≤ a11 ∧ a11 < 65536 := rng16 h11
  have q13 : 0 ≤ a13 ∧ a13 < 256 := rng8 h13
  have q14 : 0 ≤ a14 ∧ a14 < 256 := rng8 h14
  have q15 : 0 ≤ a15 ∧ a15 < 4294967296 := rng32 h15
  have q16 : 0 ≤ a16 ∧ a16 < 4294967296 := rng32 h16
  have q17 : 0 ≤ a17 ∧ a17 < 65536 := rng16 h17
  have q18 : 0 ≤ a18 ∧ a18 < 65536 := rng16 h18
  have q19 : 0 ≤ a19 ∧ a19 < 256 := rng8 h19
  have q20 : 0 ≤ a20 ∧ a20 < 256 := rng8 h20
  show outsE (fnOf T147 es24) [a0, a1, a2, a3, a4, a5, a6, a7, a8, a9, a10, a11, a12, a13, a14, a15, a16, a17, a18, a19, a20, a21, a22, a23, a24, a25, a26, a27, a28, a29, a30, a31, a32] 0 [.b, .i .i64] = outsE (fun j xs => match j with | 0 => b2i (matF fun i => xs.getD i 0) | _ => matE fun i => xs.getD i 0) [a0, a1, a2, a3, a4, a5, a6, a7, a8, a9, a10, a11, a12, a13, a14, a15, a16, a17, a18, a19, a20, a21, a22, a23, a24, a25, a26, a27, a28, a29, a30, a31, a32] 0 [.b, .i .i64]
  have F17 : ∀ xs, T147.F 17 0 xs = b2i (rightS fun i => xs.getD i 0) := fun _ => rfl
  have F147 : ∀ xs, T147.F 147 0 xs = b2i (all7 fun i => xs.getD i 0) := fun _ => rfl
  have F30 : ∀ j xs, T147.F 30 j xs = fieldsF (fun i => xs.getD i 0) j := fun _ _ => rfl
  have F48 : ∀ j xs, T147.F 48 j xs = valuesF (fun i => xs.getD i 0) j := fun _ _ => rfl
  have hR : RuleIn (fun i => [a0, a1, a2, a3, a4, a5, a6, a7, a8, a9, a10, a11, a12].getD i 0) := ⟨q0, q1, q2, q3, q4, q5, q6, q7, q8, q9, q10, q11⟩
  refine outs_two ?_ ?_
  · show fnOf T147 es24 0 [a0, a1, a2, a3, a4, a5, a6, a7, a8, a9, a10, a11, a12, a13, a14, a15, a16, a17, a18, a19, a20, a21, a22, a23, a24, a25, a26, a27, a28, a29, a30, a31, a32] = b2i (matF fun i => [a0, a1, a2, a3, a4, a5, a6, a7, a8, a9, a10, a11, a12, a13, a14, a15, a16, a17, a18, a19, a20, a21, a22, a23, a24, a25, a26, a27, a28, a29, a30, a31, a32].getD i 0)
    simp only [es24, fnOf, E.den, E.denL, binI, dvI, shI, cmpB, List.getD_cons_zero, List.getD_cons_succ, i2b_b2i, norm_b2i, F17, F147, F30, F48, h0, h1, h2, h3, h4, h5, h6, h7, h8, h9, h10, h11, h12, h13, h14, h15, h16, h17, h18, h19, h20, h21, h22, h23, h24, h25, h26, h27, h28, h29, h30, h31, h32]
    simp only [fieldsF_norm hR, valuesF, List.getD_cons_zero, List.getD_cons_succ]
    simp only [nrm32 (show 0 ≤ a13 ∧ a13 < 4294967296 by omega), nrm32 (show 0 ≤ a14 ∧ a14 < 4294967296 by omega), nrm32 q15, nrm32 q16, nrm32 (show 0 ≤ a17 ∧ a17 < 4294967296 by omega), nrm32 (show 0 ≤ a18 ∧ a18 < 4294967296 by omega), nrm32 (show 0 ≤ a20 ∧ a20 < 4294967296 by omega)]
    congr 1
    have eG : (!(decide (a13 > K.norm (.i .u8) 1) || a14 != K.norm (.i .u8) 1 && a14 != K.norm (.i .u8) 6 && a14 != K.norm (.i .u8) 17)) = goodP a13 a14 := by
      simp only [K.norm, wrap8, Int.reduceMod, goodP]
      grind
    rw [eG]
    show (rightS (fun i => [a0, a1, a2, a3, a4, a5, a6, a7, a8, a9, a10, a11, a12].getD i 0) && (goodP a13 a14 && _)) = (rightS (fun i => [a0, a1, a2, a3, a4, a5, a6, a7, a8, a9, a10, a11, a12].getD i 0) && (goodP a13 a14 && meetsS (fun i => [a0, a1, a2, a3, a4, a5, a6, a7, a8, a9, a10, a11, a12].getD i 0) a13 a14 a15 a16 a17 a18 a20))
    cases hr : rightS (fun i => [a0, a1, a2, a3, a4, a5, a6, a7, a8, a9, a10, a11, a12].getD i 0)
    · rfl
    cases hg : goodP a13 a14
    · rfl
    rw [← has_all hR ((rightS_iff _).1 hr) hg q13.1 q14.2 q20]
    rfl
  · show fnOf T147 es24 1 [a0, a1, a2, a3, a4, a5, a6, a7, a8, a9, a10, a11, a12, a13, a14, a15, a16, a17, a18, a19, a20, a21, a22, a23, a24, a25, a26, a27, a28, a29, a30, a31, a32] = matE fun i => [a0, a1, a2, a3, a4, a5, a6, a7, a8, a9, a10, a11, a12, a13, a14, a15, a16, a17, a18, a19, a20, a21, a22, a23, a24, a25, a26, a27, a28, a29, a30, a31, a32].getD i 0
    simp only [es24, fnOf, E.den, E.denL, binI, dvI, shI, cmpB, List.getD_cons_zero, List.getD_cons_succ, i2b_b2i, norm_b2i, F17, h0, h1, h2, h3, h4, h5, h6, h7, h8, h9, h10, h11, h12, h13, h14, h15, h16, h17, h18, h19, h20, h21, h22, h23, h24, h25, h26, h27, h28, h29, h30, h31, h32]
    have eG : (decide (a13 > K.norm (.i .u8) 1) || a14 != K.norm (.i .u8) 1 && a14 != K.norm (.i .u8) 6 && a14 != K.norm (.i .u8) 17) = !goodP a13 a14 := by
      simp only [K.norm, wrap8, Int.reduceMod, goodP]
      grind
    rw [eG]
    rfl
theorem ok24 : EntryOK Tryd.prog G0 en24 := ok24'.congr lem24
def T24 : Tabs := en24 :: T147
theorem tok24 : TabsOK Tryd.prog G0 T24 := .cons ok24 tok147

def es51 : List E :=
  [(.and (.not (.or (.or (.or (.and (.cmp .neq (.var (.i .u8) 0) (.lit (.i .u8) 2)) (.cmp .neq (.var (.i .u8) 0) (.var (.i .u8) 13))) (.and (.cmp .neq (.var (.i .u8) 1) (.lit (.i .u8) 0)) (.cmp .neq (.var (.i .u8) 1) (.var (.i .u8) 14))))
    (.not (.app .b 63 0 [(.var (.i .u32) 4), (.var (.i .u8) 5), (.var (.i .u32) 15)]))) (.not (.app .b 63 0 [(.var (.i .u32) 6), (.var (.i .u8) 7), (.var (.i .u32) 16)])))) (.and (.not (.or (.or (.or (.cmp .lss (.var (.i .u16) 17) (.var (.i
    .u16) 8)) (.cmp .gtr (.var (.i .u16) 17) (.var (.i .u16) 9))) (.cmp .lss (.var (.i .u16) 18) (.var (.i .u16) 10))) (.cmp .gtr (.var (.i .u16) 18) (.var (.i .u16) 11)))) (.not (.or (.and (.app .b 540 0 [(.var (.i .u8) 2)]) (.not (.cmp .eql
    (.app .b 540 0 [(.var (.i .u8) 3)]) (.app .b 540 0 [(.var (.i .u8) 20)])))) (.and (.not (.and (.app .b 540 0 [(.var (.i .u8) 2)]) (.not (.cmp .eql (.app .b 540 0 [(.var (.i .u8) 3)]) (.app .b 540 0 [(.var (.i .u8) 20)]))))) (.or (.and (.app
    .b 541 0 [(.var (.i .u8) 2)]) (.not (.cmp .eql (.app .b 541 0 [(.var (.i .u8) 3)]) (.app .b 541 0 [(.var (.i .u8) 20)])))) (.and (.not (.and (.app .b 541 0 [(.var (.i .u8) 2)]) (.not (.cmp .eql (.app .b 541 0 [(.var (.i .u8) 3)]) (.app .b
    541 0 [(.var (.i .u8) 20)]))))) (.or (.and (.app .b 542 0 [(.var (.i .u8) 2)]) (.not (.cmp .eql (.app .b 542 0 [(.var (.i .u8) 3)]) (.app .b 542 0 [(.var (.i .u8) 20)])))) (.and (.not (.and (.app .b 542 0 [(.var (.i .u8) 2)]) (.not (.cmp
    .eql (.app .b 542 0 [(.var (.i .u8) 3)]) (.app .b 542 0 [(.var (.i .u8) 20)]))))) (.or (.and (.app .b 543 0 [(.var (.i .u8) 2)]) (.not (.cmp .eql (.app .b 543 0 [(.var (.i .u8) 3)]) (.app .b 543 0 [(.var (.i .u8) 20)])))) (.and (.not (.and
    (.app .b 543 0 [(.var (.i .u8) 2)]) (.not (.cmp .eql (.app .b 543 0 [(.var (.i .u8) 3)]) (.app .b 543 0 [(.var (.i .u8) 20)]))))) (.or (.and (.app .b 544 0 [(.var (.i .u8) 2)]) (.not (.cmp .eql (.app .b 544 0 [(.var (.i .u8) 3)]) (.app .b
    544 0 [(.var (.i .u8) 20)])))) (.and (.not (.and (.app .b 544 0 [(.var (.i .u8) 2)]) (.not (.cmp .eql (.app .b 544 0 [(.var (.i .u8) 3)]) (.app .b 544 0 [(.var (.i .u8) 20)]))))) (.or (.and (.app .b 545 0 [(.var (.i .u8) 2)]) (.not (.cmp
    .eql (.app .b 545 0 [(.var (.i .u8) 3)]) (.app .b 545 0 [(.var (.i .u8) 20)])))) (.and (.not (.and (.app .b 545 0 [(.var (.i .u8) 2)]) (.not (.cmp .eql (.app .b 545 0 [(.var (.i .u8) 3)]) (.app .b 545 0 [(.var (.i .u8) 20)]))))) (.or (.and
    (.app .b 546 0 [(.var (.i .u8) 2)]) (.not (.cmp .eql (.app .b 546 0 [(.var (.i .u8) 3)]) (.app .b 546 0 [(.var (.i .u8) 20)])))) (.and (.not (.and (.app .b 546 0 [(.var (.i .u8) 2)]) (.not (.cmp .eql (.app .b 546 0 [(.var (.i .u8) 3)])
    (.app .b 546 0 [(.var (.i .u8) 20)]))))) (.and (.app .b 547 0 [(.var (.i .u8) 2)]) (.not (.cmp .eql (.app .b 547 0 [(.var (.i .u8) 3)]) (.app .b 547 0 [(.var (.i .u8) 20)])))))))))))))))))))))]
def en51' : Entry := ⟨51, 51, [.a ruleK, .s (.i .u8), .a factsK], .one (.s (.b)), fnOf T24 es51⟩
theorem ok51' : EntryOK Tryd.prog G0 en51' := evE_ok (N := 200) (n := 20) (by kernel_rfl) tok24 (by kernel_rfl)
def en51 : Entry := ⟨51, 51, [.a ruleK, .s (.i .u8), .a factsK], .one (.s (.b)), fun _ xs => b2i (meetsS (fun i => xs.getD i 0) (xs.getD 13 0) (xs.getD 14 0) (xs.getD 15 0) (xs.getD 16 0) (xs.getD 17 0) (xs.getD 18 0) (xs.getD 20 0))⟩
theorem lem51 : ∀ xs, fits (allKs en51'.ps) xs → outsE en51'.fn xs 0 en51'.rs.ks = outsE en51.fn xs 0 en51.rs.ks := by
  intro xs hx
  replace hx : fits [.i .u8, .i .u8, .i .u8, .i .u8, .i .u32, .i .u8, .i .u32, .i .u8, .i .u16, .i .u16, .i .u16, .i .u16, .b, .i .u8, .i .u8, .i .u32, .i .u32, .i .u16, .i .u16, .i .u8, .i .u8, .i .u8, .i .u8, .i .u32, .i .u32, .i .i64, .i .i64, .i .u8, .i .u32, .i .u32, .i .u16, .i .u16, .i .u8] xs := hx
  obtain ⟨a0, r0, rfl, h0, y0⟩ := fits_cons hx
  obtain ⟨a1, r1, rfl, h1, y1⟩ := fits_cons y0
  obtain ⟨a2, r2, rfl, h2, y2⟩ := fits_cons y1
  obtain ⟨a3, r3, rfl, h3, y3⟩ := fits_cons y2
  obtain ⟨a4, r4, rfl, h4, y4⟩ := fits_cons y3
  obtain ⟨a5, r5, rfl, h5, y5⟩ := fits_cons y4
  obtain ⟨a6, r6, rfl, h6, y6⟩ := fits_cons y5
  obtain ⟨a7, r7, rfl, h7, y7⟩ := fits_cons y6
  obtain ⟨a8, r8, rfl, h8, y8⟩ := fits_cons y7
  obtain ⟨a9, r9, rfl, h9, y9⟩ := fits_cons y8
  obtain ⟨a10, r10, rfl, h10, y10⟩ := fits_cons y9
  obtain ⟨a11, r11, rfl, h11, y11⟩ := fits_cons y10
  obtain ⟨a12, r12, rfl, h12, y12⟩ := fits_cons y11
  obtain ⟨a13, r13, rfl, h13, y13⟩ := fits_cons y12
  obtain ⟨a14, r14, rfl, h14, y14⟩ := fits_cons y13
  obtain ⟨a15, r15, rfl, h15, y15⟩ := fits_cons y14
  obtain ⟨a16, r16, rfl, h16, y16⟩ := fits_cons y15
  obtain ⟨a17, r17, rfl, h17, y17⟩ := fits_cons y16
  obtain ⟨a18, r18, rfl, h18, y18⟩ := fits_cons y17
  obtain ⟨a19, r19, rfl, h19, y19⟩ := fits_cons y18
  obtain ⟨a20, r20, rfl, h20, y20⟩ := fits_cons y19
  obtain ⟨a21, r21, rfl, h21, y21⟩ := fits_cons y20
  obtain ⟨a22, r22, rfl, h22, y22⟩ := fits_cons y21
  obtain ⟨a23, r23, rfl, h23, y23⟩ := fits_cons y22
  obtain ⟨a24, r24, rfl, h24, y24⟩ := fits_cons y23
  obtain ⟨a25, r25, rfl, h25, y25⟩ := fits_cons y24
  obtain ⟨a26, r26, rfl, h26, y26⟩ := fits_cons y25
  obtain ⟨a27, r27, rfl, h27, y27⟩ := fits_cons y26
  obtain ⟨a28, r28, rfl, h28, y28⟩ := fits_cons y27
  obtain ⟨a29, r29, rfl, h29, y29⟩ := fits_cons y28
  obtain ⟨a30, r30, rfl, h30, y30⟩ := fits_cons y29
  obtain ⟨a31, r31, rfl, h31, y31⟩ := fits_cons y30
  obtain ⟨a32, r32, rfl, h32, y32⟩ := fits_cons y31
  obtain rfl := fits_nil y32
  clear hx y0 y1 y2 y3 y4 y5 y6 y7 y8 y9 y10 y11 y12 y13 y14 y15 y16 y17 y18 y19 y20 y21 y22 y23 y24 y25 y26 y27 y28 y29 y30 y31 y32
  have q0 : 0 ≤ a0 ∧ a0 < 256 := rng8 h0
  have q1 : 0 ≤ a1 ∧ a1 < 256 := rng8 h1
  have q2 : 0 ≤ a2 ∧ a2 < 256 := rng8 h2
  have q3 : 0 ≤ a3 ∧ a3 < 256 := rng8 h3
  have q4 : 0 ≤ a4 ∧ a4 < 4294967296 := rng32 h4
  have q5 : 0 ≤ a5 ∧ a5 < 256 := rng8 h5
  have q6 : 0 ≤ a6 ∧ a6 < 4294967296 := rng32 h6
  have q7 : 0 ≤ a7 ∧ a7 < 256 := rng8 h7
  have q8 : 0 ≤ a8 ∧ a8 < 65536 := rng16 h8
  have q9 : 0 ≤ a9 ∧ a9 < 65536 := rng16 h9
  have q10 : 0 ≤ a10 ∧ a10 < 65536 := rng16 h10
  have q11 : 0 ≤ a11 ∧ a11 < 65536 := rng16 h11
  have q13 : 0 ≤ a13 ∧ a13 < 256 := rng8 h13
  have q14 : 0 ≤ a14 ∧ a14 < 256 := rng8 h14
  have q15 : 0 ≤ a15 ∧ a15 < 4294967296 := rng32 h15
  have q16 : 0 ≤ a16 ∧ a16 < 4294967296 := rng32 h16
  have q17 : 0 ≤ a17 ∧ a17 < 65536 := rng16 h17
  have q18 : 0 ≤ a18 ∧ a18 < 65536 := rng16 h18
  have q19 : 0 ≤ a19 ∧ a19 < 256 := rng8 h19
  have q20 : 0 ≤ a20 ∧ a20 < 256 := rng8 h20
  refine outs_one ?_
  show fnOf T24 es51 0 [a0, a1, a2, a3, a4, a5, a6, a7, a8, a9, a10, a11, a12, a13, a14, a15, a16, a17, a18, a19, a20, a21, a22, a23, a24, a25, a26, a27, a28, a29, a30, a31, a32] = b2i (meetsS (fun i => [a0, a1, a2, a3, a4, a5, a6, a7, a8, a9, a10, a11, a12, a13, a14, a15, a16, a17, a18, a19, a20, a21, a22, a23, a24, a25, a26, a27, a28, a29, a30, a31, a32].getD i 0) a13 a14 a15 a16 a17 a18 a20)
  have F63 : ∀ xs, T24.F 63 0 xs = b2i (inP (xs.getD 0 0) (xs.getD 1 0) (xs.getD 2 0)) := fun _ => rfl
  have B0 : ∀ xs, T24.F 540 0 xs = b2i (bitB (xs.getD 0 0) 0) := fun _ => rfl
  have B1 : ∀ xs, T24.F 541 0 xs = b2i (bitB (xs.getD 0 0) 1) := fun _ => rfl
  have B2 : ∀ xs, T24.F 542 0 xs = b2i (bitB (xs.getD 0 0) 2) := fun _ => rfl
  have B3 : ∀ xs, T24.F 543 0 xs = b2i (bitB (xs.getD 0 0) 3) := fun _ => rfl
  have B4 : ∀ xs, T24.F 544 0 xs = b2i (bitB (xs.getD 0 0) 4) := fun _ => rfl
  have B5 : ∀ xs, T24.F 545 0 xs = b2i (bitB (xs.getD 0 0) 5) := fun _ => rfl
  have B6 : ∀ xs, T24.F 546 0 xs = b2i (bitB (xs.getD 0 0) 6) := fun _ => rfl
  have B7 : ∀ xs, T24.F 547 0 xs = b2i (bitB (xs.getD 0 0) 7) := fun _ => rfl
  simp only [es51, fnOf, E.den, E.denL, binI, dvI, shI, cmpB, List.getD_cons_zero, List.getD_cons_succ, i2b_b2i, norm_b2i, F63, B0, B1, B2, B3, B4, B5, B6, B7, h0, h1, h2, h3, h4, h5, h6, h7, h8, h9, h10, h11, h12, h13, h14, h15, h16, h17, h18, h19, h20, h21, h22, h23, h24, h25, h26, h27, h28, h29, h30, h31, h32]
  simp only [meetsS, List.getD_cons_zero, List.getD_cons_succ]
  congr 1
  have hs := flB_not a2 a3 a20 q2
  generalize flB a2 a3 a20 = sb at hs ⊢
  simp only [b2i_eq]
  simp only [orn]
  generalize (bitB a2 0 && !(bitB a3 0 == bitB a20 0)) = c0 at hs ⊢
  generalize (bitB a2 1 && !(bitB a3 1 == bitB a20 1)) = c1 at hs ⊢
  generalize (bitB a2 2 && !(bitB a3 2 == bitB a20 2)) = c2 at hs ⊢
  generalize (bitB a2 3 && !(bitB a3 3 == bitB a20 3)) = c3 at hs ⊢
  generalize (bitB a2 4 && !(bitB a3 4 == bitB a20 4)) = c4 at hs ⊢
  generalize (bitB a2 5 && !(bitB a3 5 == bitB a20 5)) = c5 at hs ⊢
  generalize (bitB a2 6 && !(bitB a3 6 == bitB a20 6)) = c6 at hs ⊢
  generalize (bitB a2 7 && !(bitB a3 7 == bitB a20 7)) = c7 at hs ⊢
  subst hs
  generalize inP a4 a5 a15 = p1
  generalize inP a6 a7 a16 = p2
  simp only [K.norm, wrap8, Int.reduceMod]
  grind
theorem ok51 : EntryOK Tryd.prog G0 en51 := ok51'.congr lem51
def T51 : Tabs := en51 :: T24
theorem tok51 : TabsOK Tryd.prog G0 T51 := .cons ok51 tok24

def es25 : List E :=
  [(.and (.app .b 26 0 [(.var (.i .u8) 0), (.var (.i .u8) 1), (.var (.i .u8) 2), (.var (.i .u8) 3), (.var (.i .u32) 4), (.var (.i .u8) 5), (.var (.i .u32) 6), (.var (.i .u8) 7), (.var (.i .u16) 8), (.var (.i .u16) 9), (.var (.i .u16) 10),
    (.var (.i .u16) 11), (.var .b 12)]) (.and (.not (.or (.cmp .gtr (.var (.i .u8) 13) (.lit (.i .u8) 1)) (.and (.and (.cmp .neq (.var (.i .u8) 14) (.lit (.i .u8) 1)) (.cmp .neq (.var (.i .u8) 14) (.lit (.i .u8) 6))) (.cmp .neq (.var (.i .u8)
    14) (.lit (.i .u8) 17))))) (.app .b 51 0 [(.var (.i .u8) 0), (.var (.i .u8) 1), (.var (.i .u8) 2), (.var (.i .u8) 3), (.var (.i .u32) 4), (.var (.i .u8) 5), (.var (.i .u32) 6), (.var (.i .u8) 7), (.var (.i .u16) 8), (.var (.i .u16) 9),
    (.var (.i .u16) 10), (.var (.i .u16) 11), (.var .b 12), (.var (.i .u8) 13), (.var (.i .u8) 14), (.var (.i .u32) 15), (.var (.i .u32) 16), (.var (.i .u16) 17), (.var (.i .u16) 18), (.var (.i .u8) 19), (.var (.i .u8) 20), (.var (.i .u8) 21),
    (.var (.i .u8) 22), (.var (.i .u32) 23), (.var (.i .u32) 24), (.var (.i .i64) 25), (.var (.i .i64) 26), (.var (.i .u8) 27), (.var (.i .u32) 28), (.var (.i .u32) 29), (.var (.i .u16) 30), (.var (.i .u16) 31), (.var (.i .u8) 32)]))), (.ite
    (.not (.app .b 26 0 [(.var (.i .u8) 0), (.var (.i .u8) 1), (.var (.i .u8) 2), (.var (.i .u8) 3), (.var (.i .u32) 4), (.var (.i .u8) 5), (.var (.i .u32) 6), (.var (.i .u8) 7), (.var (.i .u16) 8), (.var (.i .u16) 9), (.var (.i .u16) 10),
    (.var (.i .u16) 11), (.var .b 12)])) (.lit (.i .i64) 260) (.ite (.or (.cmp .gtr (.var (.i .u8) 13) (.lit (.i .u8) 1)) (.and (.and (.cmp .neq (.var (.i .u8) 14) (.lit (.i .u8) 1)) (.cmp .neq (.var (.i .u8) 14) (.lit (.i .u8) 6))) (.cmp .neq
    (.var (.i .u8) 14) (.lit (.i .u8) 17)))) (.lit (.i .i64) 261) (.lit (.i .i64) 0)))]
def en25' : Entry := ⟨25, 25, [.a ruleK, .s (.i .u8), .a factsK], .tup [.s (.b), .s (.i .i64)], fnOf T51 es25⟩
theorem ok25' : EntryOK Tryd.prog G0 en25' := evE_ok (N := 200) (n := 20) (by kernel_rfl) tok51 (by kernel_rfl)
def en25 : Entry := ⟨25, 25, [.a ruleK, .s (.i .u8), .a factsK], .tup [.s (.b), .s (.i .i64)], fun j xs => match j with | 0 => b2i (matF fun i => xs.getD i 0) | _ => matE fun i => xs.getD i 0⟩
theorem lem25 : ∀ xs, fits (allKs en25'.ps) xs → outsE en25'.fn xs 0 en25'.rs.ks = outsE en25.fn xs 0 en25.rs.ks := by
  intro xs hx
  replace hx : fits [.i .u8, .i .u8, .i .u8, .i .u8, .i .u32, .i .u8, .i .u32, .i .u8, .i .u16, .i .u16, .i .u16, .i .u16, .b, .i .u8, .i .u8, .i .u32, .i .u32, .i .u16, .i .u16, .i .u8, .i .u8, .i .u8, .i .u8, .i .u32, .i .u32, .i .i64, .i .i64, .i .u8, .i .u32, .i .u32, .i .u16, .i .u16, .i .u8] xs := hx
  obtain ⟨a0, r0, rfl, h0, y0⟩ := fits_cons hx
  obtain ⟨a1, r1, rfl, h1, y1⟩ := fits_cons y0
  obtain ⟨a2, r2, rfl, h2, y2⟩ := fits_cons y1
  obtain ⟨a3, r3, rfl, h3, y3⟩ := fits_cons y2
  obtain ⟨a4, r4, rfl, h4, y4⟩ := fits_cons y3
  obtain ⟨a5, r5, rfl, h5, y5⟩ := fits_cons y4
  obtain ⟨a6, r6, rfl, h6, y6⟩ := fits_cons y5
  obtain ⟨a7, r7, rfl, h7, y7⟩ := fits_cons y6
  obtain ⟨a8, r8, rfl, h8, y8⟩ := fits_cons y7
  obtain ⟨a9, r9, rfl, h9, y9⟩ := fits_cons y8
  obtain ⟨a10, r10, rfl, h10, y10⟩ := fits_cons y9
  obtain ⟨a11, r11, rfl, h11, y11⟩ := fits_cons y10
  obtain ⟨a12, r12, rfl, h12, y12⟩ := fits_cons y11
  obtain ⟨a13, r13, rfl, h13, y13⟩ := fits_cons y12
  obtain ⟨a14, r14, rfl, h14, y14⟩ := fits_cons y13
  obtain ⟨a15, r15, rfl, h15, y15⟩ := fits_cons y14
  obtain ⟨a16, r16, rfl, h16, y16⟩ := fits_cons y15
  obtain ⟨a17, r17, rfl, h17, y17⟩ := fits_cons y16
  obtain ⟨a18, r18, rfl, h18, y18⟩ := fits_cons y17
  obtain ⟨a19, r19, rfl, h19, y19⟩ := fits_cons y18
  obtain ⟨a20, r20, rfl, h20, y20⟩ := fits_cons y19
  obtain ⟨a21, r21, rfl, h21, y21⟩ := fits_cons y20
  obtain ⟨a22, r22, rfl, h22, y22⟩ := fits_cons y21
  obtain ⟨a23, r23, rfl, h23, y23⟩ := fits_cons y22
  obtain ⟨a24, r24, rfl, h24, y24⟩ := fits_cons y23
  obtain ⟨a25, r25, rfl, h25, y25⟩ := fits_cons y24
  obtain ⟨a26, r26, rfl, h26, y26⟩ := fits_cons y25
  obtain ⟨a27, r27, rfl, h27, y27⟩ := fits_cons y26
  obtain ⟨a28, r28, rfl, h28, y28⟩ := fits_cons y27
  obtain ⟨a29, r29, rfl, h29, y29⟩ := fits_cons y28
  obtain ⟨a30, r30, rfl, h30, y30⟩ := fits_cons y29
  obtain ⟨a31, r31, rfl, h31, y31⟩ := fits_cons y30
  obtain ⟨a32, r32, rfl, h32, y32⟩ := fits_cons y31
  obtain rfl := fits_nil y32
  clear hx y0 y1 y2 y3 y4 y5 y6 y7 y8 y9 y10 y11 y12 y13 y14 y15 y16 y17 y18 y19 y20 y21 y22 y23 y24 y25 y26 y27 y28 y29 y30 y31 y32
  have q0 : 0 ≤ a0 ∧ a0 < 256 := rng8 h0
  have q1 : 0 ≤ a1 ∧ a1 < 256 := rng8 h1
  have q2 : 0 ≤ a2 ∧ a2 < 256 := rng8 h2
  have q3 : 0 ≤ a3 ∧ a3 < 256 := rng8 h3
  have q4 : 0 ≤ a4 ∧ a4 < 4294967296 := rng32 h4
  have q5 : 0 ≤ a5 ∧ a5 < 256 := rng8 h5
  have q6 : 0 ≤ a6 ∧ a6 < 4294967296 := rng32 h6
  have q7 : 0 ≤ a7 ∧ a7 < 256 := rng8 h7
  have q8 : 0 ≤ a8 ∧ a8 < 65536 := rng16 h8
  have q9 : 0 ≤ a9 ∧ a9 < 65536 := rng16 h9
  have q10 : 0 ≤ a10 ∧ a10 < 65536 := rng16 h10
  have q11 : 0 ≤ a11 ∧ a11 < 65536 := rng16 h11
  have q13 : 0 ≤ a13 ∧ a13 < 256 := rng8 h13
  have q14 : 0 ≤ a14 ∧ a14 < 256 := rng8 h14
  have q15 : 0 ≤ a15 ∧ a15 < 4294967296 := rng32 h15
  have q16 : 0 ≤ a16 ∧ a16 < 4294967296 := rng32 h16
  have q17 : 0 ≤ a17 ∧ a17 < 65536 := rng16 h17
  have q18 : 0 ≤ a18 ∧ a18 < 65536 := rng16 h18
  have q19 : 0 ≤ a19 ∧ a19 < 256 := rng8 h19
  have q20 : 0 ≤ a20 ∧ a20 < 256 := rng8 h20
  show outsE (fnOf T51 es25) [a0, a1, a2, a3, a4, a5, a6, a7, a8, a9, a10, a11, a12, a13, a14, a15, a16, a17, a18, a19, a20, a21, a22, a23, a24, a25, a26, a27, a28, a29, a30, a31, a32] 0 [.b, .i .i64] = outsE (fun j xs => match j with | 0 => b2i (matF fun i => xs.getD i 0) | _ => matE fun i => xs.getD i 0) [a0, a1, a2, a3, a4, a5, a6, a7, a8, a9, a10, a11, a12, a13, a14, a15, a16, a17, a18, a19, a20, a21, a22, a23, a24, a25, a26, a27, a28, a29, a30, a31, a32] 0 [.b, .i .i64]
  have F26 : ∀ xs, T51.F 26 0 xs = b2i (rightS fun i => xs.getD i 0) := fun _ => rfl
  have F51 : ∀ xs, T51.F 51 0 xs = b2i (meetsS (fun i => xs.getD i 0) (xs.getD 13 0) (xs.getD 14 0) (xs.getD 15 0) (xs.getD 16 0) (xs.getD 17 0) (xs.getD 18 0) (xs.getD 20 0)) := fun _ => rfl
  refine outs_two ?_ ?_
  · show fnOf T51 es25 0 [a0, a1, a2, a3, a4, a5, a6, a7, a8, a9, a10, a11, a12, a13, a14, a15, a16, a17, a18, a19, a20, a21, a22, a23, a24, a25, a26, a27, a28, a29, a30, a31, a32] = b2i (matF fun i => [a0, a1, a2, a3, a4, a5, a6, a7, a8, a9, a10, a11, a12, a13, a14, a15, a16, a17, a18, a19, a20, a21, a22, a23, a24, a25, a26, a27, a28, a29, a30, a31, a32].getD i 0)
    simp only [es25, fnOf, E.den, E.denL, binI, dvI, shI, cmpB, List.getD_cons_zero, List.getD_cons_succ, i2b_b2i, norm_b2i, F26, F51, h0, h1, h2, h3, h4, h5, h6, h7, h8, h9, h10, h11, h12, h13, h14, h15, h16, h17, h18, h19, h20, h21, h22, h23, h24, h25, h26, h27, h28, h29, h30, h31, h32]
    congr 1
    have eG : (!(decide (a13 > K.norm (.i .u8) 1) || a14 != K.norm (.i .u8) 1 && a14 != K.norm (.i .u8) 6 && a14 != K.norm (.i .u8) 17)) = goodP a13 a14 := by
      simp only [K.norm, wrap8, Int.reduceMod, goodP]
      grind
    rw [eG]
    rfl
  · show fnOf T51 es25 1 [a0, a1, a2, a3, a4, a5, a6, a7, a8, a9, a10, a11, a12, a13, a14, a15, a16, a17, a18, a19, a20, a21, a22, a23, a24, a25, a26, a27, a28, a29, a30, a31, a32] = matE fun i => [a0, a1, a2, a3, a4, a5, a6, a7, a8, a9, a10, a11, a12, a13, a14, a15, a16, a17, a18, a19, a20, a21, a22, a23, a24, a25, a26, a27, a28, a29, a30, a31, a32].getD i 0
    simp only [es25, fnOf, E.den, E.denL, binI, dvI, shI, cmpB, List.getD_cons_zero, List.getD_cons_succ, i2b_b2i, norm_b2i, F26, h0, h1, h2, h3, h4, h5, h6, h7, h8, h9, h10, h11, h12, h13, h14, h15, h16, h17, h18, h19, h20, h21, h22, h23, h24, h25, h26, h27, h28, h29, h30, h31, h32]
    have eG : (decide (a13 > K.norm (.i .u8) 1) || a14 != K.norm (.i .u8) 1 && a14 != K.norm (.i .u8) 6 && a14 != K.norm (.i .u8) 17) = !goodP a13 a14 := by
      simp only [K.norm, wrap8, Int.reduceMod, goodP]
      grind
    rw [eG]
    rfl
theorem ok25 : EntryOK Tryd.prog G0 en25 := ok25'.congr lem25
def T25 : Tabs := en25 :: T51
theorem tok25 : TabsOK Tryd.prog G0 T25 := .cons ok25 tok51

end Go.Proofs.YtbolcnlenmphhaaDoor
