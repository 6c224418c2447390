/- Layer 26: summaries of the functions, fifth part: what two rules have in common. Printed by a program from the evaluator's own output; the lemmas by hand. -/
import Derived.Test.YtbolcnlenmphhaaDoorS4
import Derived.Test.YtbolcnlenmphhaaDoorFc
set_option linter.unusedVariables false
set_option linter.unusedSimpArgs false
namespace Go.Proofs.YtbolcnlenmphhaaDoor
open Go Go.RowKit Ev

def c15x0 : List E :=
  [(.var (.i .u8) 0), (.var (.i .u8) 1), (.var (.i .u8) 2), (.var (.i .u8) 3), (.var (.i .u32) 4), (.var (.i .u8) 5), (.var (.i .u32) 6), (.var (.i .u8) 7), (.var (.i .u16) 8), (.var (.i .u16) 9), (.var (.i .u16) 10), (.var (.i .u16) 11),
    (.var .b 12)]
def c15x1 : List E :=
  [(.var (.i .u8) 13), (.var (.i .u8) 14), (.var (.i .u8) 15), (.var (.i .u8) 16), (.var (.i .u32) 17), (.var (.i .u8) 18), (.var (.i .u32) 19), (.var (.i .u8) 20), (.var (.i .u16) 21), (.var (.i .u16) 22), (.var (.i .u16) 23), (.var (.i
    .u16) 24), (.var .b 25)]
def c15x2 : List E :=
  [(.app (.i .u32) 30 0 c15x0), (.app (.i .u32) 30 1 c15x0), (.app (.i .u32) 30 2 c15x0), (.app (.i .u32) 30 3 c15x0), (.app (.i .u32) 30 4 c15x0), (.app (.i .u32) 30 5 c15x0), (.app (.i .u32) 30 6 c15x0), (.app (.i .u32) 30 7 c15x0), (.app
    (.i .u32) 30 8 c15x0), (.app (.i .u32) 30 9 c15x0), (.app (.i .u32) 30 10 c15x0), (.app (.i .u32) 30 11 c15x0), (.app (.i .u32) 30 12 c15x0), (.app (.i .u32) 30 13 c15x0), (.app (.i .u32) 30 14 c15x0), (.app (.i .u32) 30 15 c15x0), (.app
    (.i .u32) 30 16 c15x0), (.app (.i .u32) 30 17 c15x0), (.app (.i .u32) 30 18 c15x0), (.app (.i .u32) 30 19 c15x0), (.app (.i .u32) 30 20 c15x0), (.app (.i .u32) 30 21 c15x0), (.app (.i .u32) 30 22 c15x0), (.app (.i .u32) 30 23 c15x0), (.app
    (.i .u32) 30 24 c15x0), (.app (.i .u32) 30 25 c15x0), (.app (.i .u32) 30 26 c15x0), (.app (.i .u32) 30 27 c15x0), (.app (.i .u32) 30 0 c15x1), (.app (.i .u32) 30 1 c15x1), (.app (.i .u32) 30 2 c15x1), (.app (.i .u32) 30 3 c15x1), (.app (.i
    .u32) 30 4 c15x1), (.app (.i .u32) 30 5 c15x1), (.app (.i .u32) 30 6 c15x1), (.app (.i .u32) 30 7 c15x1), (.app (.i .u32) 30 8 c15x1), (.app (.i .u32) 30 9 c15x1), (.app (.i .u32) 30 10 c15x1), (.app (.i .u32) 30 11 c15x1), (.app (.i .u32)
    30 12 c15x1), (.app (.i .u32) 30 13 c15x1), (.app (.i .u32) 30 14 c15x1), (.app (.i .u32) 30 15 c15x1), (.app (.i .u32) 30 16 c15x1), (.app (.i .u32) 30 17 c15x1), (.app (.i .u32) 30 18 c15x1), (.app (.i .u32) 30 19 c15x1), (.app (.i .u32)
    30 20 c15x1), (.app (.i .u32) 30 21 c15x1), (.app (.i .u32) 30 22 c15x1), (.app (.i .u32) 30 23 c15x1), (.app (.i .u32) 30 24 c15x1), (.app (.i .u32) 30 25 c15x1), (.app (.i .u32) 30 26 c15x1), (.app (.i .u32) 30 27 c15x1)]
def es15 : List E :=
  [(.ite (.or (.not (.app .b 17 0 c15x0)) (.not (.app .b 17 0 c15x1))) (.lit (.i .u8) 0) (.ite (.not (.app .b 132 0 c15x2)) (.lit (.i .u8) 0) (.ite (.cmp .eql (.var (.i .u8) 0) (.lit (.i .u8) 2)) (.var (.i .u8) 13) (.var (.i .u8) 0)))), (.ite
    (.or (.not (.app .b 17 0 c15x0)) (.not (.app .b 17 0 c15x1))) (.lit (.i .u8) 0) (.ite (.not (.app .b 132 0 c15x2)) (.lit (.i .u8) 0) (.ite (.cmp .gtr (.var (.i .u8) 14) (.var (.i .u8) 1)) (.var (.i .u8) 14) (.var (.i .u8) 1)))), (.ite (.or
    (.not (.app .b 17 0 c15x0)) (.not (.app .b 17 0 c15x1))) (.lit (.i .u8) 0) (.ite (.not (.app .b 132 0 c15x2)) (.lit (.i .u8) 0) (.bin .or .u8 (.var (.i .u8) 2) (.var (.i .u8) 15)))), (.ite (.or (.not (.app .b 17 0 c15x0)) (.not (.app .b 17
    0 c15x1))) (.lit (.i .u8) 0) (.ite (.not (.app .b 132 0 c15x2)) (.lit (.i .u8) 0) (.bin .or .u8 (.var (.i .u8) 3) (.var (.i .u8) 16)))), (.ite (.or (.not (.app .b 17 0 c15x0)) (.not (.app .b 17 0 c15x1))) (.lit (.i .u32) 0) (.ite (.not
    (.app .b 132 0 c15x2)) (.lit (.i .u32) 0) (.ite (.cmp .gtr (.var (.i .u8) 18) (.var (.i .u8) 5)) (.var (.i .u32) 17) (.var (.i .u32) 4)))), (.ite (.or (.not (.app .b 17 0 c15x0)) (.not (.app .b 17 0 c15x1))) (.lit (.i .u8) 0) (.ite (.not
    (.app .b 132 0 c15x2)) (.lit (.i .u8) 0) (.ite (.cmp .gtr (.var (.i .u8) 18) (.var (.i .u8) 5)) (.var (.i .u8) 18) (.var (.i .u8) 5)))), (.ite (.or (.not (.app .b 17 0 c15x0)) (.not (.app .b 17 0 c15x1))) (.lit (.i .u32) 0) (.ite (.not
    (.app .b 132 0 c15x2)) (.lit (.i .u32) 0) (.ite (.cmp .gtr (.var (.i .u8) 20) (.var (.i .u8) 7)) (.var (.i .u32) 19) (.var (.i .u32) 6)))), (.ite (.or (.not (.app .b 17 0 c15x0)) (.not (.app .b 17 0 c15x1))) (.lit (.i .u8) 0) (.ite (.not
    (.app .b 132 0 c15x2)) (.lit (.i .u8) 0) (.ite (.cmp .gtr (.var (.i .u8) 20) (.var (.i .u8) 7)) (.var (.i .u8) 20) (.var (.i .u8) 7)))), (.ite (.or (.not (.app .b 17 0 c15x0)) (.not (.app .b 17 0 c15x1))) (.lit (.i .u16) 0) (.ite (.not
    (.app .b 132 0 c15x2)) (.lit (.i .u16) 0) (.ite (.cmp .gtr (.var (.i .u16) 21) (.var (.i .u16) 8)) (.var (.i .u16) 21) (.var (.i .u16) 8)))), (.ite (.or (.not (.app .b 17 0 c15x0)) (.not (.app .b 17 0 c15x1))) (.lit (.i .u16) 0) (.ite (.not
    (.app .b 132 0 c15x2)) (.lit (.i .u16) 0) (.ite (.cmp .lss (.var (.i .u16) 22) (.var (.i .u16) 9)) (.var (.i .u16) 22) (.var (.i .u16) 9)))), (.ite (.or (.not (.app .b 17 0 c15x0)) (.not (.app .b 17 0 c15x1))) (.lit (.i .u16) 0) (.ite (.not
    (.app .b 132 0 c15x2)) (.lit (.i .u16) 0) (.ite (.cmp .gtr (.var (.i .u16) 23) (.var (.i .u16) 10)) (.var (.i .u16) 23) (.var (.i .u16) 10)))), (.ite (.or (.not (.app .b 17 0 c15x0)) (.not (.app .b 17 0 c15x1))) (.lit (.i .u16) 0) (.ite
    (.not (.app .b 132 0 c15x2)) (.lit (.i .u16) 0) (.ite (.cmp .lss (.var (.i .u16) 24) (.var (.i .u16) 11)) (.var (.i .u16) 24) (.var (.i .u16) 11)))), (.and (.not (.or (.not (.app .b 17 0 c15x0)) (.not (.app .b 17 0 c15x1)))) (.and (.app .b
    132 0 c15x2) (.var .b 12))), (.ite (.or (.not (.app .b 17 0 c15x0)) (.not (.app .b 17 0 c15x1))) (.lit (.i .i64) 260) (.ite (.not (.app .b 132 0 c15x2)) (.lit (.i .i64) 6) (.lit (.i .i64) 0)))]
def en15' : Entry := ⟨15, 15, [.a ruleK, .a ruleK], .tup [.a ruleK, .s (.i .i64)], fnOf T44 es15⟩
theorem ok15' : EntryOK Tryd.prog G0 en15' := evE_ok (N := 200) (n := 20) (by kernel_rfl) tok44 (by kernel_rfl)
def en15 : Entry := ⟨15, 15, [.a ruleK, .a ruleK], .tup [.a ruleK, .s (.i .i64)], fun j xs => comO (fun i => xs.getD i 0) (fun i => xs.getD (i + 13) 0) j⟩
theorem lem15 : ∀ xs, fits (allKs en15'.ps) xs → outsE en15'.fn xs 0 en15'.rs.ks = outsE en15.fn xs 0 en15.rs.ks := by
  intro xs hx
  replace hx : fits [.i .u8, .i .u8, .i .u8, .i .u8, .i .u32, .i .u8, .i .u32, .i .u8, .i .u16, .i .u16, .i .u16, .i .u16, .b, .i .u8, .i .u8, .i .u8, .i .u8, .i .u32, .i .u8, .i .u32, .i .u8, .i .u16, .i .u16, .i .u16, .i .u16, .b] xs := hx
  obtain ⟨a0, r0, rfl, h0, y0⟩ := fits_cons hx
  obtain ⟨a1, r1, rfl, h1, y1⟩ := fits_cons y0
  obtain ⟨a2, r2, rfl, h2, y2⟩ := fits_cons y1
  obtain ⟨a3, r3, rfl, h3, y3⟩ := fits_cons y2
  obtain ⟨a4, r4, rfl, h4, y4⟩ := fits_cons y3
  obtain ⟨a5, r5, rfl, h5, y5⟩ := fits_cons y4
  obtain ⟨a6, r6, rfl, h6, y6⟩ := fits_cons y5
  obtain ⟨a7, r7, rfl, h7, y7⟩ := fits_cons y6
  obtain ⟨a8, r8, rfl, h8, y8⟩ := fits_cons y7
  obtain ⟨a9, r9, rfl, h9, y9⟩ := fits_cons y8
  obtain ⟨a10, r10, rfl, h10, y10⟩ := fits_cons y9
  obtain ⟨a11, r11, rfl, h11, y11⟩ := fits_cons y10
  obtain ⟨a12, r12, rfl, h12, y12⟩ := fits_cons y11
  obtain ⟨a13, r13, rfl, h13, y13⟩ := fits_cons y12
  obtain ⟨a14, r14, rfl, h14, y14⟩ := fits_cons y13
  obtain ⟨a15, r15, rfl, h15, y15⟩ := fits_cons y14
  obtain ⟨a16, r16, rfl, h16, y16⟩ := fits_cons y15
  obtain ⟨a17, r17, rfl, h17, y17⟩ := fits_cons y16
  obtain ⟨a18, r18, rfl, h18, y18⟩ := fits_cons y17
  obtain ⟨a19, r19, rfl, h19, y19⟩ := fits_cons y18
  obtain ⟨a20, r20, rfl, h20, y20⟩ := fits_cons y19
  obtain ⟨a21, r21, rfl, h21, y21⟩ := fits_cons y20
  obtain ⟨a22, r22, rfl, h22, y22⟩ := fits_cons y21
  obtain ⟨a23, r23, rfl, h23, y23⟩ := fits_cons y22
  obtain ⟨a24, r24, rfl, h24, y24⟩ := fits_cons y23
  obtain ⟨a25, r25, rfl, h25, y25⟩ := fits_cons y24
  obtain rfl := fits_nil y25
  clear hx y0 y1 y2 y3 y4 y5 y6 y7 y8 y9 y10 y11 y12 y13 y14 y15 y16 y17 y18 y19 y20 y21 y22 y23 y24 y25
  have q0 : 0 ≤ a0 ∧ a0 < 256 := rng8 h0
  have q1 : 0 ≤ a1 ∧ a1 < 256 := rng8 h1
  have q2 : 0 ≤ a2 ∧ a2 < 256 := rng8 h2
  have q3 : 0 ≤ a3 ∧ a3 < 256 := rng8 h3
  have q4 : 0 ≤ a4 ∧ a4 < 4294967296 := rng32 h4
  have q5 : 0 ≤ a5 ∧ a5 < 256 := rng8 h5
  have q6 : 0 ≤ a6 ∧ a6 < 4294967296 := rng32 h6
  have q7 : 0 ≤ a7 ∧ a7 < 256 := rng8 h7
  have q8 : 0 ≤ a8 ∧ a8 < 65536 := rng16 h8
  have q9 : 0 ≤ a9 ∧ a9 < 65536 := rng16 h9
  have q10 : 0 ≤ a10 ∧ a10 < 65536 := rng16 h10
  have q11 : 0 ≤ a11 ∧ a11 < 65536 := rng16 h11
  have q13 : 0 ≤ a13 ∧ a13 < 256 := rng8 h13
  have q14 : 0 ≤ a14 ∧ a14 < 256 := rng8 h14
  have q15 : 0 ≤ a15 ∧ a15 < 256 := rng8 h15
  have q16 : 0 ≤ a16 ∧ a16 < 256 := rng8 h16
  have q17 : 0 ≤ a17 ∧ a17 < 4294967296 := rng32 h17
  have q18 : 0 ≤ a18 ∧ a18 < 256 := rng8 h18
  have q19 : 0 ≤ a19 ∧ a19 < 4294967296 := rng32 h19
  have q20 : 0 ≤ a20 ∧ a20 < 256 := rng8 h20
  have q21 : 0 ≤ a21 ∧ a21 < 65536 := rng16 h21
  have q22 : 0 ≤ a22 ∧ a22 < 65536 := rng16 h22
  have q23 : 0 ≤ a23 ∧ a23 < 65536 := rng16 h23
  have q24 : 0 ≤ a24 ∧ a24 < 65536 := rng16 h24
  show outsE (fnOf T44 es15) [a0, a1, a2, a3, a4, a5, a6, a7, a8, a9, a10, a11, a12, a13, a14, a15, a16, a17, a18, a19, a20, a21, a22, a23, a24, a25] 0 [.i .u8, .i .u8, .i .u8, .i .u8, .i .u32, .i .u8, .i .u32, .i .u8, .i .u16, .i .u16, .i .u16, .i .u16, .b, .i .i64] = [K.norm (.i .u8) (comC (fun i => [a0, a1, a2, a3, a4, a5, a6, a7, a8, a9, a10, a11, a12].getD i 0) (fun i => [a13, a14, a15, a16, a17, a18, a19, a20, a21, a22, a23, a24, a25].getD i 0) 0), K.norm (.i .u8) (comC (fun i => [a0, a1, a2, a3, a4, a5, a6, a7, a8, a9, a10, a11, a12].getD i 0) (fun i => [a13, a14, a15, a16, a17, a18, a19, a20, a21, a22, a23, a24, a25].getD i 0) 1), K.norm (.i .u8) (comC (fun i => [a0, a1, a2, a3, a4, a5, a6, a7, a8, a9, a10, a11, a12].getD i 0) (fun i => [a13, a14, a15, a16, a17, a18, a19, a20, a21, a22, a23, a24, a25].getD i 0) 2), K.norm (.i .u8) (comC (fun i => [a0, a1, a2, a3, a4, a5, a6, a7, a8, a9, a10, a11, a12].getD i 0) (fun i => [a13, a14, a15, a16, a17, a18, a19, a20, a21, a22, a23, a24, a25].getD i 0) 3), K.norm (.i .u32) (comC (fun i => [a0, a1, a2, a3, a4, a5, a6, a7, a8, a9, a10, a11, a12].getD i 0) (fun i => [a13, a14, a15, a16, a17, a18, a19, a20, a21, a22, a23, a24, a25].getD i 0) 4), K.norm (.i .u8) (comC (fun i => [a0, a1, a2, a3, a4, a5, a6, a7, a8, a9, a10, a11, a12].getD i 0) (fun i => [a13, a14, a15, a16, a17, a18, a19, a20, a21, a22, a23, a24, a25].getD i 0) 5), K.norm (.i .u32) (comC (fun i => [a0, a1, a2, a3, a4, a5, a6, a7, a8, a9, a10, a11, a12].getD i 0) (fun i => [a13, a14, a15, a16, a17, a18, a19, a20, a21, a22, a23, a24, a25].getD i 0) 6), K.norm (.i .u8) (comC (fun i => [a0, a1, a2, a3, a4, a5, a6, a7, a8, a9, a10, a11, a12].getD i 0) (fun i => [a13, a14, a15, a16, a17, a18, a19, a20, a21, a22, a23, a24, a25].getD i 0) 7), K.norm (.i .u16) (comC (fun i => [a0, a1, a2, a3, a4, a5, a6, a7, a8, a9, a10, a11, a12].getD i 0) (fun i => [a13, a14, a15, a16, a17, a18, a19, a20, a21, a22, a23, a24, a25].getD i 0) 8), K.norm (.i .u16) (comC (fun i => [a0, a1, a2, a3, a4, a5, a6, a7, a8, a9, a10, a11, a12].getD i 0) (fun i => [a13, a14, a15, a16, a17, a18, a19, a20, a21, a22, a23, a24, a25].getD i 0) 9), K.norm (.i .u16) (comC (fun i => [a0, a1, a2, a3, a4, a5, a6, a7, a8, a9, a10, a11, a12].getD i 0) (fun i => [a13, a14, a15, a16, a17, a18, a19, a20, a21, a22, a23, a24, a25].getD i 0) 10), K.norm (.i .u16) (comC (fun i => [a0, a1, a2, a3, a4, a5, a6, a7, a8, a9, a10, a11, a12].getD i 0) (fun i => [a13, a14, a15, a16, a17, a18, a19, a20, a21, a22, a23, a24, a25].getD i 0) 11), K.norm (.b) (comC (fun i => [a0, a1, a2, a3, a4, a5, a6, a7, a8, a9, a10, a11, a12].getD i 0) (fun i => [a13, a14, a15, a16, a17, a18, a19, a20, a21, a22, a23, a24, a25].getD i 0) 12), K.norm (.i .i64) (comE (fun i => [a0, a1, a2, a3, a4, a5, a6, a7, a8, a9, a10, a11, a12].getD i 0) (fun i => [a13, a14, a15, a16, a17, a18, a19, a20, a21, a22, a23, a24, a25].getD i 0))]
  have F17 : ∀ xs, T44.F 17 0 xs = b2i (rightS fun i => xs.getD i 0) := fun _ => rfl
  have F132 : ∀ xs, T44.F 132 0 xs = b2i (all7m fun i => xs.getD i 0) := fun _ => rfl
  have F30 : ∀ j xs, T44.F 30 j xs = fieldsF (fun i => xs.getD i 0) j := fun _ _ => rfl
  have hA : RuleIn (fun i => [a0, a1, a2, a3, a4, a5, a6, a7, a8, a9, a10, a11, a12].getD i 0) := rule1 q0 q1 q2 q3 q4 q5 q6 q7 q8 q9 q10 q11
  have hB : RuleIn (fun i => [a13, a14, a15, a16, a17, a18, a19, a20, a21, a22, a23, a24, a25].getD i 0) := rule1 q13 q14 q15 q16 q17 q18 q19 q20 q21 q22 q23 q24
  simp only [outsE, es15, c15x0, c15x1, c15x2, fnOf, E.den, E.denL, binI, dvI, shI, cmpB, List.getD_cons_zero, List.getD_cons_succ, i2b_b2i, norm_b2i, F17, F132, F30, h0, h1, h2, h3, h4, h5, h6, h7, h8, h9, h10, h11, h12, h13, h14, h15, h16, h17, h18, h19, h20, h21, h22, h23, h24, h25, Nat.zero_add, Nat.reduceAdd]
  simp only [fieldsF_norm hA, fieldsF_norm hB]
  have e : rightS (fun i => [a0, a1, a2, a3, a4, a5, a6, a7, a8, a9, a10, a11, a12].getD i 0) = true → rightS (fun i => [a13, a14, a15, a16, a17, a18, a19, a20, a21, a22, a23, a24, a25].getD i 0) = true → all7m (fun i => [fieldsF (fun i => [a0, a1, a2, a3, a4, a5, a6, a7, a8, a9, a10, a11, a12].getD i 0) 0, fieldsF (fun i => [a0, a1, a2, a3, a4, a5, a6, a7, a8, a9, a10, a11, a12].getD i 0) 1, fieldsF (fun i => [a0, a1, a2, a3, a4, a5, a6, a7, a8, a9, a10, a11, a12].getD i 0) 2, fieldsF (fun i => [a0, a1, a2, a3, a4, a5, a6, a7, a8, a9, a10, a11, a12].getD i 0) 3, fieldsF (fun i => [a0, a1, a2, a3, a4, a5, a6, a7, a8, a9, a10, a11, a12].getD i 0) 4, fieldsF (fun i => [a0, a1, a2, a3, a4, a5, a6, a7, a8, a9, a10, a11, a12].getD i 0) 5, fieldsF (fun i => [a0, a1, a2, a3, a4, a5, a6, a7, a8, a9, a10, a11, a12].getD i 0) 6, fieldsF (fun i => [a0, a1, a2, a3, a4, a5, a6, a7, a8, a9, a10, a11, a12].getD i 0) 7, fieldsF (fun i => [a0, a1, a2, a3, a4, a5, a6, a7, a8, a9, a10, a11, a12].getD i 0) 8, fieldsF (fun i => [a0, a1, a2, a3, a4, a5, a6, a7, a8, a9, a10, a11, a12].getD i 0) 9, fieldsF (fun i => [a0, a1, a2, a3, a4, a5, a6, a7, a8, a9, a10, a11, a12].getD i 0) 10, fieldsF (fun i => [a0, a1, a2, a3, a4, a5, a6, a7, a8, a9, a10, a11, a12].getD i 0) 11, fieldsF (fun i => [a0, a1, a2, a3, a4, a5, a6, a7, a8, a9, a10, a11, a12].getD i 0) 12, fieldsF (fun i => [a0, a1, a2, a3, a4, a5, a6, a7, a8, a9, a10, a11, a12].getD i 0) 13, fieldsF (fun i => [a0, a1, a2, a3, a4, a5, a6, a7, a8, a9, a10, a11, a12].getD i 0) 14, fieldsF (fun i => [a0, a1, a2, a3, a4, a5, a6, a7, a8, a9, a10, a11, a12].getD i 0) 15, fieldsF (fun i => [a0, a1, a2, a3, a4, a5, a6, a7, a8, a9, a10, a11, a12].getD i 0) 16, fieldsF (fun i => [a0, a1, a2, a3, a4, a5, a6, a7, a8, a9, a10, a11, a12].getD i 0) 17, fieldsF (fun i => [a0, a1, a2, a3, a4, a5, a6, a7, a8, a9, a10, a11, a12].getD i 0) 18, fieldsF (fun i => [a0, a1, a2, a3, a4, a5, a6, a7, a8, a9, a10, a11, a12].getD i 0) 19, fieldsF (fun i => [a0, a1, a2, a3, a4, a5, a6, a7, a8, a9, a10, a11, a12].getD i 0) 20, fieldsF (fun i => [a0, a1, a2, a3, a4, a5, a6, a7, a8, a9, a10, a11, a12].getD i 0) 21, fieldsF (fun i => [a0, a1, a2, a3, a4, a5, a6, a7, a8, a9, a10, a11, a12].getD i 0) 22, fieldsF (fun i => [a0, a1, a2, a3, a4, a5, a6, a7, a8, a9, a10, a11, a12].getD i 0) 23, fieldsF (fun i => [a0, a1, a2, a3, a4, a5, a6, a7, a8, a9, a10, a11, a12].getD i 0) 24, fieldsF (fun i => [a0, a1, a2, a3, a4, a5, a6, a7, a8, a9, a10, a11, a12].getD i 0) 25, fieldsF (fun i => [a0, a1, a2, a3, a4, a5, a6, a7, a8, a9, a10, a11, a12].getD i 0) 26, fieldsF (fun i => [a0, a1, a2, a3, a4, a5, a6, a7, a8, a9, a10, a11, a12].getD i 0) 27, fieldsF (fun i => [a13, a14, a15, a16, a17, a18, a19, a20, a21, a22, a23, a24, a25].getD i 0) 0, fieldsF (fun i => [a13, a14, a15, a16, a17, a18, a19, a20, a21, a22, a23, a24, a25].getD i 0) 1, fieldsF (fun i => [a13, a14, a15, a16, a17, a18, a19, a20, a21, a22, a23, a24, a25].getD i 0) 2, fieldsF (fun i => [a13, a14, a15, a16, a17, a18, a19, a20, a21, a22, a23, a24, a25].getD i 0) 3, fieldsF (fun i => [a13, a14, a15, a16, a17, a18, a19, a20, a21, a22, a23, a24, a25].getD i 0) 4, fieldsF (fun i => [a13, a14, a15, a16, a17, a18, a19, a20, a21, a22, a23, a24, a25].getD i 0) 5, fieldsF (fun i => [a13, a14, a15, a16, a17, a18, a19, a20, a21, a22, a23, a24, a25].getD i 0) 6, fieldsF (fun i => [a13, a14, a15, a16, a17, a18, a19, a20, a21, a22, a23, a24, a25].getD i 0) 7, fieldsF (fun i => [a13, a14, a15, a16, a17, a18, a19, a20, a21, a22, a23, a24, a25].getD i 0) 8, fieldsF (fun i => [a13, a14, a15, a16, a17, a18, a19, a20, a21, a22, a23, a24, a25].getD i 0) 9, fieldsF (fun i => [a13, a14, a15, a16, a17, a18, a19, a20, a21, a22, a23, a24, a25].getD i 0) 10, fieldsF (fun i => [a13, a14, a15, a16, a17, a18, a19, a20, a21, a22, a23, a24, a25].getD i 0) 11, fieldsF (fun i => [a13, a14, a15, a16, a17, a18, a19, a20, a21, a22, a23, a24, a25].getD i 0) 12, fieldsF (fun i => [a13, a14, a15, a16, a17, a18, a19, a20, a21, a22, a23, a24, a25].getD i 0) 13, fieldsF (fun i => [a13, a14, a15, a16, a17, a18, a19, a20, a21, a22, a23, a24, a25].getD i 0) 14, fieldsF (fun i => [a13, a14, a15, a16, a17, a18, a19, a20, a21, a22, a23, a24, a25].getD i 0) 15, fieldsF (fun i => [a13, a14, a15, a16, a17, a18, a19, a20, a21, a22, a23, a24, a25].getD i 0) 16, fieldsF (fun i => [a13, a14, a15, a16, a17, a18, a19, a20, a21, a22, a23, a24, a25].getD i 0) 17, fieldsF (fun i => [a13, a14, a15, a16, a17, a18, a19, a20, a21, a22, a23, a24, a25].getD i 0) 18, fieldsF (fun i => [a13, a14, a15, a16, a17, a18, a19, a20, a21, a22, a23, a24, a25].getD i 0) 19, fieldsF (fun i => [a13, a14, a15, a16, a17, a18, a19, a20, a21, a22, a23, a24, a25].getD i 0) 20, fieldsF (fun i => [a13, a14, a15, a16, a17, a18, a19, a20, a21, a22, a23, a24, a25].getD i 0) 21, fieldsF (fun i => [a13, a14, a15, a16, a17, a18, a19, a20, a21, a22, a23, a24, a25].getD i 0) 22, fieldsF (fun i => [a13, a14, a15, a16, a17, a18, a19, a20, a21, a22, a23, a24, a25].getD i 0) 23, fieldsF (fun i => [a13, a14, a15, a16, a17, a18, a19, a20, a21, a22, a23, a24, a25].getD i 0) 24, fieldsF (fun i => [a13, a14, a15, a16, a17, a18, a19, a20, a21, a22, a23, a24, a25].getD i 0) 25, fieldsF (fun i => [a13, a14, a15, a16, a17, a18, a19, a20, a21, a22, a23, a24, a25].getD i 0) 26, fieldsF (fun i => [a13, a14, a15, a16, a17, a18, a19, a20, a21, a22, a23, a24, a25].getD i 0) 27].getD i 0) = cmS (fun i => [a0, a1, a2, a3, a4, a5, a6, a7, a8, a9, a10, a11, a12].getD i 0) (fun i => [a13, a14, a15, a16, a17, a18, a19, a20, a21, a22, a23, a24, a25].getD i 0) := fun h1 h2 => by
    rw [← meet_all hA hB ((rightS_iff _).1 h1) ((rightS_iff _).1 h2)]
    rfl
  unfold comC comE
  cases hr : rightS (fun i => [a0, a1, a2, a3, a4, a5, a6, a7, a8, a9, a10, a11, a12].getD i 0)
  · rfl
  cases hs : rightS (fun i => [a13, a14, a15, a16, a17, a18, a19, a20, a21, a22, a23, a24, a25].getD i 0)
  · rfl
  rw [e hr hs]
  cases hc : cmS (fun i => [a0, a1, a2, a3, a4, a5, a6, a7, a8, a9, a10, a11, a12].getD i 0) (fun i => [a13, a14, a15, a16, a17, a18, a19, a20, a21, a22, a23, a24, a25].getD i 0)
  · rfl
  simp only [Bool.not_true, Bool.not_false, Bool.or_self, Bool.or_false, Bool.and_self, Bool.true_and, Bool.and_true, cond_true, cond_false, cmnF, List.getD_cons_zero, List.getD_cons_succ, b2i_i2b h12]
  rw [or8 a2 a15 q2 q15, or8 a3 a16 q3 q16]
  simp only [bif_max, bif_min, K.norm, wrap8, Int.reduceMod]
  rw [show (if a12 = 0 then (0 : Int) else 1) = a12 from h12]
  rfl
theorem ok15 : EntryOK Tryd.prog G0 en15 := ok15'.congr lem15
def T15 : Tabs := en15 :: T44
theorem tok15 : TabsOK Tryd.prog G0 T15 := .cons ok15 tok44

def es60 : List E :=
  [(.ite (.app .b 64 0 [(.var (.i .u32) 0), (.var (.i .u8) 1), (.var (.i .u32) 2), (.var (.i .u8) 3)]) (.var (.i .u32) 0) (.var (.i .u32) 2)), (.ite (.app .b 64 0 [(.var (.i .u32) 0), (.var (.i .u8) 1), (.var (.i .u32) 2), (.var (.i .u8) 3)])
    (.var (.i .u8) 1) (.var (.i .u8) 3)), (.or (.app .b 64 0 [(.var (.i .u32) 0), (.var (.i .u8) 1), (.var (.i .u32) 2), (.var (.i .u8) 3)]) (.app .b 64 0 [(.var (.i .u32) 2), (.var (.i .u8) 3), (.var (.i .u32) 0), (.var (.i .u8) 1)]))]
def en60' : Entry := ⟨60, 60, [.a [.i .u32, .i .u8], .a [.i .u32, .i .u8]], .tup [.a [.i .u32, .i .u8], .s (.b)], fnOf T15 es60⟩
theorem ok60' : EntryOK Tryd.prog G0 en60' := evE_ok (N := 200) (n := 20) (by kernel_rfl) tok15 (by kernel_rfl)
def en60 : Entry := ⟨60, 60, [.a [.i .u32, .i .u8], .a [.i .u32, .i .u8]], .tup [.a [.i .u32, .i .u8], .s (.b)], fun j xs => match j with | 0 => (bif subP (xs.getD 0 0) (xs.getD 1 0) (xs.getD 2 0) (xs.getD 3 0) then xs.getD 0 0 else xs.getD 2 0) | 1 => (bif subP (xs.getD 0 0) (xs.getD 1 0) (xs.getD 2 0) (xs.getD 3 0) then xs.getD 1 0 else xs.getD 3 0) | _ => b2i (subP (xs.getD 0 0) (xs.getD 1 0) (xs.getD 2 0) (xs.getD 3 0) || subP (xs.getD 2 0) (xs.getD 3 0) (xs.getD 0 0) (xs.getD 1 0))⟩
theorem lem60 : ∀ xs, fits (allKs en60'.ps) xs → outsE en60'.fn xs 0 en60'.rs.ks = outsE en60.fn xs 0 en60.rs.ks := by
  intro xs hx
  replace hx : fits [.i .u32, .i .u8, .i .u32, .i .u8] xs := hx
  obtain ⟨a0, r0, rfl, h0, y0⟩ := fits_cons hx
  obtain ⟨a1, r1, rfl, h1, y1⟩ := fits_cons y0
  obtain ⟨a2, r2, rfl, h2, y2⟩ := fits_cons y1
  obtain ⟨a3, r3, rfl, h3, y3⟩ := fits_cons y2
  obtain rfl := fits_nil y3
  clear hx y0 y1 y2 y3
  show outsE (fnOf T15 es60) [a0, a1, a2, a3] 0 [.i .u32, .i .u8, .b] = [K.norm (.i .u32) (bif subP a0 a1 a2 a3 then a0 else a2), K.norm (.i .u8) (bif subP a0 a1 a2 a3 then a1 else a3), K.norm .b (b2i (subP a0 a1 a2 a3 || subP a2 a3 a0 a1))]
  have F64 : ∀ xs, T15.F 64 0 xs = b2i (subP (xs.getD 0 0) (xs.getD 1 0) (xs.getD 2 0) (xs.getD 3 0)) := fun _ => rfl
  simp only [outsE, es60, fnOf, E.den, E.denL, binI, dvI, shI, cmpB, List.getD_cons_zero, List.getD_cons_succ, i2b_b2i, norm_b2i, F64, h0, h1, h2, h3, Nat.zero_add, Nat.reduceAdd]
theorem ok60 : EntryOK Tryd.prog G0 en60 := ok60'.congr lem60
def T60 : Tabs := en60 :: T15
theorem tok60 : TabsOK Tryd.prog G0 T60 := .cons ok60 tok15

def es61 : List E :=
  [(.ite (.cmp .gtr (.var (.i .u16) 2) (.var (.i .u16) 0)) (.var (.i .u16) 2) (.var (.i .u16) 0)), (.ite (.cmp .lss (.var (.i .u16) 3) (.var (.i .u16) 1)) (.var (.i .u16) 3) (.var (.i .u16) 1)), (.cmp .leq (.ite (.cmp .gtr (.var (.i .u16) 2)
    (.var (.i .u16) 0)) (.var (.i .u16) 2) (.var (.i .u16) 0)) (.ite (.cmp .lss (.var (.i .u16) 3) (.var (.i .u16) 1)) (.var (.i .u16) 3) (.var (.i .u16) 1)))]
def en61' : Entry := ⟨61, 61, [.a [.i .u16, .i .u16], .a [.i .u16, .i .u16]], .tup [.a [.i .u16, .i .u16], .s (.b)], fnOf T60 es61⟩
theorem ok61' : EntryOK Tryd.prog G0 en61' := evE_ok (N := 200) (n := 20) (by kernel_rfl) tok60 (by kernel_rfl)
def en61 : Entry := ⟨61, 61, [.a [.i .u16, .i .u16], .a [.i .u16, .i .u16]], .tup [.a [.i .u16, .i .u16], .s (.b)], fun j xs => match j with | 0 => max (xs.getD 0 0) (xs.getD 2 0) | 1 => min (xs.getD 1 0) (xs.getD 3 0) | _ => b2i (decide (max (xs.getD 0 0) (xs.getD 2 0) ≤ min (xs.getD 1 0) (xs.getD 3 0)))⟩
theorem lem61 : ∀ xs, fits (allKs en61'.ps) xs → outsE en61'.fn xs 0 en61'.rs.ks = outsE en61.fn xs 0 en61.rs.ks := by
  intro xs hx
  replace hx : fits [.i .u16, .i .u16, .i .u16, .i .u16] xs := hx
  obtain ⟨a0, r0, rfl, h0, y0⟩ := fits_cons hx
  obtain ⟨a1, r1, rfl, h1, y1⟩ := fits_cons y0
  obtain ⟨a2, r2, rfl, h2, y2⟩ := fits_cons y1
  obtain ⟨a3, r3, rfl, h3, y3⟩ := fits_cons y2
  obtain rfl := fits_nil y3
  clear hx y0 y1 y2 y3
  show outsE (fnOf T60 es61) [a0, a1, a2, a3] 0 [.i .u16, .i .u16, .b] = [K.norm (.i .u16) (max a0 a2), K.norm (.i .u16) (min a1 a3), K.norm .b (b2i (decide (max a0 a2 ≤ min a1 a3)))]
  simp only [outsE, es61, fnOf, E.den, E.denL, binI, dvI, shI, cmpB, List.getD_cons_zero, List.getD_cons_succ, i2b_b2i, norm_b2i, h0, h1, h2, h3, Nat.zero_add, Nat.reduceAdd, bif_max, bif_min]
theorem ok61 : EntryOK Tryd.prog G0 en61 := ok61'.congr lem61
def T61 : Tabs := en61 :: T60
theorem tok61 : TabsOK Tryd.prog G0 T61 := .cons ok61 tok60

def c45x0 : List E :=
  [(.var (.i .u8) 0), (.var (.i .u8) 1), (.var (.i .u8) 2), (.var (.i .u8) 3), (.var (.i .u32) 4), (.var (.i .u8) 5), (.var (.i .u32) 6), (.var (.i .u8) 7), (.var (.i .u16) 8), (.var (.i .u16) 9), (.var (.i .u16) 10), (.var (.i .u16) 11),
    (.var .b 12)]
def c45x1 : List E :=
  [(.var (.i .u8) 13), (.var (.i .u8) 14), (.var (.i .u8) 15), (.var (.i .u8) 16), (.var (.i .u32) 17), (.var (.i .u8) 18), (.var (.i .u32) 19), (.var (.i .u8) 20), (.var (.i .u16) 21), (.var (.i .u16) 22), (.var (.i .u16) 23), (.var (.i
    .u16) 24), (.var .b 25)]
def c45x2 : E :=
  (.and (.not (.cmp .eql (.var (.i .u8) 0) (.lit (.i .u8) 2))) (.and (.cmp .neq (.var (.i .u8) 13) (.lit (.i .u8) 2)) (.cmp .neq (.var (.i .u8) 13) (.var (.i .u8) 0))))
def c45x3 : E :=
  (.and (.not (.cmp .eql (.var (.i .u8) 1) (.lit (.i .u8) 0))) (.and (.cmp .neq (.var (.i .u8) 14) (.lit (.i .u8) 0)) (.cmp .neq (.var (.i .u8) 14) (.var (.i .u8) 1))))
def c45x4 : E :=
  (.or (.not (.app .b 60 2 [(.var (.i .u32) 4), (.var (.i .u8) 5), (.var (.i .u32) 17), (.var (.i .u8) 18)])) (.not (.app .b 60 2 [(.var (.i .u32) 6), (.var (.i .u8) 7), (.var (.i .u32) 19), (.var (.i .u8) 20)])))
def c45x5 : E :=
  (.or (.or c45x4 (.not (.app .b 61 2 [(.var (.i .u16) 8), (.var (.i .u16) 9), (.var (.i .u16) 21), (.var (.i .u16) 22)]))) (.not (.app .b 61 2 [(.var (.i .u16) 10), (.var (.i .u16) 11), (.var (.i .u16) 23), (.var (.i .u16) 24)])))
def c45x6 : E :=
  (.and (.and (.app .b 540 0 [(.var (.i .u8) 2)]) (.app .b 540 0 [(.var (.i .u8) 15)])) (.not (.cmp .eql (.app .b 540 0 [(.var (.i .u8) 3)]) (.app .b 540 0 [(.var (.i .u8) 16)]))))
def c45x7 : E :=
  (.and (.and (.app .b 541 0 [(.var (.i .u8) 2)]) (.app .b 541 0 [(.var (.i .u8) 15)])) (.not (.cmp .eql (.app .b 541 0 [(.var (.i .u8) 3)]) (.app .b 541 0 [(.var (.i .u8) 16)]))))
def c45x8 : E :=
  (.and (.and (.app .b 542 0 [(.var (.i .u8) 2)]) (.app .b 542 0 [(.var (.i .u8) 15)])) (.not (.cmp .eql (.app .b 542 0 [(.var (.i .u8) 3)]) (.app .b 542 0 [(.var (.i .u8) 16)]))))
def c45x9 : E :=
  (.and (.and (.app .b 543 0 [(.var (.i .u8) 2)]) (.app .b 543 0 [(.var (.i .u8) 15)])) (.not (.cmp .eql (.app .b 543 0 [(.var (.i .u8) 3)]) (.app .b 543 0 [(.var (.i .u8) 16)]))))
def c45x10 : E :=
  (.and (.and (.app .b 544 0 [(.var (.i .u8) 2)]) (.app .b 544 0 [(.var (.i .u8) 15)])) (.not (.cmp .eql (.app .b 544 0 [(.var (.i .u8) 3)]) (.app .b 544 0 [(.var (.i .u8) 16)]))))
def c45x11 : E :=
  (.and (.and (.app .b 545 0 [(.var (.i .u8) 2)]) (.app .b 545 0 [(.var (.i .u8) 15)])) (.not (.cmp .eql (.app .b 545 0 [(.var (.i .u8) 3)]) (.app .b 545 0 [(.var (.i .u8) 16)]))))
def c45x12 : E :=
  (.and (.and (.app .b 546 0 [(.var (.i .u8) 2)]) (.app .b 546 0 [(.var (.i .u8) 15)])) (.not (.cmp .eql (.app .b 546 0 [(.var (.i .u8) 3)]) (.app .b 546 0 [(.var (.i .u8) 16)]))))
def c45x13 : E :=
  (.and (.and (.app .b 547 0 [(.var (.i .u8) 2)]) (.app .b 547 0 [(.var (.i .u8) 15)])) (.not (.cmp .eql (.app .b 547 0 [(.var (.i .u8) 3)]) (.app .b 547 0 [(.var (.i .u8) 16)]))))
def c45x14 : E :=
  (.and (.not c45x8) (.or c45x9 (.and (.not c45x9) (.or c45x10 (.and (.not c45x10) (.or c45x11 (.and (.not c45x11) (.or c45x12 (.and (.not c45x12) c45x13)))))))))
def es45 : List E :=
  [(.ite (.or (.not (.app .b 26 0 c45x0)) (.not (.app .b 26 0 c45x1))) (.lit (.i .u8) 0) (.ite c45x2 (.lit (.i .u8) 0) (.ite c45x3 (.lit (.i .u8) 0) (.ite c45x5 (.lit (.i .u8) 0) (.ite (.or c45x6 (.and (.not c45x6) (.or c45x7 (.and (.not
    c45x7) (.or c45x8 c45x14))))) (.lit (.i .u8) 0) (.ite (.cmp .eql (.var (.i .u8) 0) (.lit (.i .u8) 2)) (.var (.i .u8) 13) (.var (.i .u8) 0))))))), (.ite (.or (.not (.app .b 26 0 c45x0)) (.not (.app .b 26 0 c45x1))) (.lit (.i .u8) 0) (.ite
    c45x2 (.lit (.i .u8) 0) (.ite c45x3 (.lit (.i .u8) 0) (.ite c45x5 (.lit (.i .u8) 0) (.ite (.or c45x6 (.and (.not c45x6) (.or c45x7 (.and (.not c45x7) (.or c45x8 c45x14))))) (.lit (.i .u8) 0) (.ite (.cmp .eql (.var (.i .u8) 1) (.lit (.i .u8)
    0)) (.var (.i .u8) 14) (.var (.i .u8) 1))))))), (.ite (.or (.not (.app .b 26 0 c45x0)) (.not (.app .b 26 0 c45x1))) (.lit (.i .u8) 0) (.ite c45x2 (.lit (.i .u8) 0) (.ite c45x3 (.lit (.i .u8) 0) (.ite c45x5 (.lit (.i .u8) 0) (.ite (.or c45x6
    (.and (.not c45x6) (.or c45x7 (.and (.not c45x7) (.or c45x8 c45x14))))) (.lit (.i .u8) 0) (.bin .add .u8 (.bin .add .u8 (.bin .add .u8 (.bin .add .u8 (.bin .add .u8 (.bin .add .u8 (.bin .add .u8 (.ite (.or (.app .b 540 0 [(.var (.i .u8)
    2)]) (.app .b 540 0 [(.var (.i .u8) 15)])) (.lit (.i .u8) 1) (.lit (.i .u8) 0)) (.ite (.or (.app .b 541 0 [(.var (.i .u8) 2)]) (.app .b 541 0 [(.var (.i .u8) 15)])) (.lit (.i .u8) 2) (.lit (.i .u8) 0))) (.ite (.or (.app .b 542 0 [(.var (.i
    .u8) 2)]) (.app .b 542 0 [(.var (.i .u8) 15)])) (.lit (.i .u8) 4) (.lit (.i .u8) 0))) (.ite (.or (.app .b 543 0 [(.var (.i .u8) 2)]) (.app .b 543 0 [(.var (.i .u8) 15)])) (.lit (.i .u8) 8) (.lit (.i .u8) 0))) (.ite (.or (.app .b 544 0
    [(.var (.i .u8) 2)]) (.app .b 544 0 [(.var (.i .u8) 15)])) (.lit (.i .u8) 16) (.lit (.i .u8) 0))) (.ite (.or (.app .b 545 0 [(.var (.i .u8) 2)]) (.app .b 545 0 [(.var (.i .u8) 15)])) (.lit (.i .u8) 32) (.lit (.i .u8) 0))) (.ite (.or (.app
    .b 546 0 [(.var (.i .u8) 2)]) (.app .b 546 0 [(.var (.i .u8) 15)])) (.lit (.i .u8) 64) (.lit (.i .u8) 0))) (.ite (.or (.app .b 547 0 [(.var (.i .u8) 2)]) (.app .b 547 0 [(.var (.i .u8) 15)])) (.lit (.i .u8) 128) (.lit (.i .u8) 0)))))))),
    (.ite (.or (.not (.app .b 26 0 c45x0)) (.not (.app .b 26 0 c45x1))) (.lit (.i .u8) 0) (.ite c45x2 (.lit (.i .u8) 0) (.ite c45x3 (.lit (.i .u8) 0) (.ite c45x5 (.lit (.i .u8) 0) (.ite (.or c45x6 (.and (.not c45x6) (.or c45x7 (.and (.not
    c45x7) (.or c45x8 c45x14))))) (.lit (.i .u8) 0) (.bin .add .u8 (.bin .add .u8 (.bin .add .u8 (.bin .add .u8 (.bin .add .u8 (.bin .add .u8 (.bin .add .u8 (.ite (.or (.app .b 540 0 [(.var (.i .u8) 3)]) (.app .b 540 0 [(.var (.i .u8) 16)]))
    (.lit (.i .u8) 1) (.lit (.i .u8) 0)) (.ite (.or (.app .b 541 0 [(.var (.i .u8) 3)]) (.app .b 541 0 [(.var (.i .u8) 16)])) (.lit (.i .u8) 2) (.lit (.i .u8) 0))) (.ite (.or (.app .b 542 0 [(.var (.i .u8) 3)]) (.app .b 542 0 [(.var (.i .u8)
    16)])) (.lit (.i .u8) 4) (.lit (.i .u8) 0))) (.ite (.or (.app .b 543 0 [(.var (.i .u8) 3)]) (.app .b 543 0 [(.var (.i .u8) 16)])) (.lit (.i .u8) 8) (.lit (.i .u8) 0))) (.ite (.or (.app .b 544 0 [(.var (.i .u8) 3)]) (.app .b 544 0 [(.var (.i
    .u8) 16)])) (.lit (.i .u8) 16) (.lit (.i .u8) 0))) (.ite (.or (.app .b 545 0 [(.var (.i .u8) 3)]) (.app .b 545 0 [(.var (.i .u8) 16)])) (.lit (.i .u8) 32) (.lit (.i .u8) 0))) (.ite (.or (.app .b 546 0 [(.var (.i .u8) 3)]) (.app .b 546 0
    [(.var (.i .u8) 16)])) (.lit (.i .u8) 64) (.lit (.i .u8) 0))) (.ite (.or (.app .b 547 0 [(.var (.i .u8) 3)]) (.app .b 547 0 [(.var (.i .u8) 16)])) (.lit (.i .u8) 128) (.lit (.i .u8) 0)))))))), (.ite (.or (.not (.app .b 26 0 c45x0)) (.not
    (.app .b 26 0 c45x1))) (.lit (.i .u32) 0) (.ite c45x2 (.lit (.i .u32) 0) (.ite c45x3 (.lit (.i .u32) 0) (.ite c45x5 (.lit (.i .u32) 0) (.ite (.or c45x6 (.and (.not c45x6) (.or c45x7 (.and (.not c45x7) (.or c45x8 c45x14))))) (.lit (.i .u32)
    0) (.app (.i .u32) 60 0 [(.var (.i .u32) 4), (.var (.i .u8) 5), (.var (.i .u32) 17), (.var (.i .u8) 18)])))))), (.ite (.or (.not (.app .b 26 0 c45x0)) (.not (.app .b 26 0 c45x1))) (.lit (.i .u8) 0) (.ite c45x2 (.lit (.i .u8) 0) (.ite c45x3
    (.lit (.i .u8) 0) (.ite c45x5 (.lit (.i .u8) 0) (.ite (.or c45x6 (.and (.not c45x6) (.or c45x7 (.and (.not c45x7) (.or c45x8 c45x14))))) (.lit (.i .u8) 0) (.app (.i .u8) 60 1 [(.var (.i .u32) 4), (.var (.i .u8) 5), (.var (.i .u32) 17),
    (.var (.i .u8) 18)])))))), (.ite (.or (.not (.app .b 26 0 c45x0)) (.not (.app .b 26 0 c45x1))) (.lit (.i .u32) 0) (.ite c45x2 (.lit (.i .u32) 0) (.ite c45x3 (.lit (.i .u32) 0) (.ite c45x5 (.lit (.i .u32) 0) (.ite (.or c45x6 (.and (.not
    c45x6) (.or c45x7 (.and (.not c45x7) (.or c45x8 c45x14))))) (.lit (.i .u32) 0) (.app (.i .u32) 60 0 [(.var (.i .u32) 6), (.var (.i .u8) 7), (.var (.i .u32) 19), (.var (.i .u8) 20)])))))), (.ite (.or (.not (.app .b 26 0 c45x0)) (.not (.app
    .b 26 0 c45x1))) (.lit (.i .u8) 0) (.ite c45x2 (.lit (.i .u8) 0) (.ite c45x3 (.lit (.i .u8) 0) (.ite c45x5 (.lit (.i .u8) 0) (.ite (.or c45x6 (.and (.not c45x6) (.or c45x7 (.and (.not c45x7) (.or c45x8 c45x14))))) (.lit (.i .u8) 0) (.app
    (.i .u8) 60 1 [(.var (.i .u32) 6), (.var (.i .u8) 7), (.var (.i .u32) 19), (.var (.i .u8) 20)])))))), (.ite (.or (.not (.app .b 26 0 c45x0)) (.not (.app .b 26 0 c45x1))) (.lit (.i .u16) 0) (.ite c45x2 (.lit (.i .u16) 0) (.ite c45x3 (.lit
    (.i .u16) 0) (.ite c45x5 (.lit (.i .u16) 0) (.ite (.or c45x6 (.and (.not c45x6) (.or c45x7 (.and (.not c45x7) (.or c45x8 c45x14))))) (.lit (.i .u16) 0) (.app (.i .u16) 61 0 [(.var (.i .u16) 8), (.var (.i .u16) 9), (.var (.i .u16) 21), (.var
    (.i .u16) 22)])))))), (.ite (.or (.not (.app .b 26 0 c45x0)) (.not (.app .b 26 0 c45x1))) (.lit (.i .u16) 0) (.ite c45x2 (.lit (.i .u16) 0) (.ite c45x3 (.lit (.i .u16) 0) (.ite c45x5 (.lit (.i .u16) 0) (.ite (.or c45x6 (.and (.not c45x6)
    (.or c45x7 (.and (.not c45x7) (.or c45x8 c45x14))))) (.lit (.i .u16) 0) (.app (.i .u16) 61 1 [(.var (.i .u16) 8), (.var (.i .u16) 9), (.var (.i .u16) 21), (.var (.i .u16) 22)])))))), (.ite (.or (.not (.app .b 26 0 c45x0)) (.not (.app .b 26
    0 c45x1))) (.lit (.i .u16) 0) (.ite c45x2 (.lit (.i .u16) 0) (.ite c45x3 (.lit (.i .u16) 0) (.ite c45x5 (.lit (.i .u16) 0) (.ite (.or c45x6 (.and (.not c45x6) (.or c45x7 (.and (.not c45x7) (.or c45x8 c45x14))))) (.lit (.i .u16) 0) (.app (.i
    .u16) 61 0 [(.var (.i .u16) 10), (.var (.i .u16) 11), (.var (.i .u16) 23), (.var (.i .u16) 24)])))))), (.ite (.or (.not (.app .b 26 0 c45x0)) (.not (.app .b 26 0 c45x1))) (.lit (.i .u16) 0) (.ite c45x2 (.lit (.i .u16) 0) (.ite c45x3 (.lit
    (.i .u16) 0) (.ite c45x5 (.lit (.i .u16) 0) (.ite (.or c45x6 (.and (.not c45x6) (.or c45x7 (.and (.not c45x7) (.or c45x8 c45x14))))) (.lit (.i .u16) 0) (.app (.i .u16) 61 1 [(.var (.i .u16) 10), (.var (.i .u16) 11), (.var (.i .u16) 23),
    (.var (.i .u16) 24)])))))), (.and (.not (.or (.not (.app .b 26 0 c45x0)) (.not (.app .b 26 0 c45x1)))) (.and (.not c45x2) (.and (.not c45x3) (.and (.not c45x5) (.and (.not (.or c45x6 (.and (.not c45x6) (.or c45x7 (.and (.not c45x7) (.or
    c45x8 c45x14)))))) (.var .b 12)))))), (.ite (.or (.not (.app .b 26 0 c45x0)) (.not (.app .b 26 0 c45x1))) (.lit (.i .i64) 260) (.ite c45x2 (.lit (.i .i64) 6) (.ite c45x3 (.lit (.i .i64) 6) (.ite c45x5 (.lit (.i .i64) 6) (.ite (.or c45x6
    (.and (.not c45x6) (.or c45x7 (.and (.not c45x7) (.or c45x8 c45x14))))) (.lit (.i .i64) 6) (.lit (.i .i64) 0))))))]
def en45' : Entry := ⟨45, 45, [.a ruleK, .a ruleK], .tup [.a ruleK, .s (.i .i64)], fnOf T61 es45⟩
theorem ok45' : EntryOK Tryd.prog G0 en45' := evE_ok (N := 200) (n := 20) (by kernel_rfl) tok61 (by kernel_rfl)
def en45 : Entry := ⟨45, 45, [.a ruleK, .a ruleK], .tup [.a ruleK, .s (.i .i64)], fun j xs => comO (fun i => xs.getD i 0) (fun i => xs.getD (i + 13) 0) j⟩
theorem lem45 : ∀ xs, fits (allKs en45'.ps) xs → outsE en45'.fn xs 0 en45'.rs.ks = outsE en45.fn xs 0 en45.rs.ks := by
  intro xs hx
  replace hx : fits [.i .u8, .i .u8, .i .u8, .i .u8, .i .u32, .i .u8, .i .u32, .i .u8, .i .u16, .i .u16, .i .u16, .i .u16, .b, .i .u8, .i .u8, .i .u8, .i .u8, .i .u32, .i .u8, .i .u32, .i .u8, .i .u16, .i .u16, .i .u16, .i .u16, .b] xs := hx
  obtain ⟨a0, r0, rfl, h0, y0⟩ := fits_cons hx
  obtain ⟨a1, r1, rfl, h1, y1⟩ := fits_cons y0
  obtain ⟨a2, r2, rfl, h2, y2⟩ := fits_cons y1
  obtain ⟨a3, r3, rfl, h3, y3⟩ := fits_cons y2
  obtain ⟨a4, r4, rfl, h4, y4⟩ := fits_cons y3
  obtain ⟨a5, r5, rfl, h5, y5⟩ := fits_cons y4
  obtain ⟨a6, r6, rfl, h6, y6⟩ := fits_cons y5
  obtain ⟨a7, r7, rfl, h7, y7⟩ := fits_cons y6
  obtain ⟨a8, r8, rfl, h8, y8⟩ := fits_cons y7
  obtain ⟨a9, r9, rfl, h9, y9⟩ := fits_cons y8
  obtain ⟨a10, r10, rfl, h10, y10⟩ := fits_cons y9
  obtain ⟨a11, r11, rfl, h11, y11⟩ := fits_cons y10
  obtain ⟨a12, r12, rfl, h12, y12⟩ := fits_cons y11
  obtain ⟨a13, r13, rfl, h13, y13⟩ := fits_cons y12
  obtain ⟨a14, r14, rfl, h14, y14⟩ := fits_cons y13
  obtain ⟨a15, r15, rfl, h15, y15⟩ := fits_cons y14
  obtain ⟨a16, r16, rfl, h16, y16⟩ := fits_cons y15
  obtain ⟨a17, r17, rfl, h17, y17⟩ := fits_cons y16
  obtain ⟨a18, r18, rfl, h18, y18⟩ := fits_cons y17
  obtain ⟨a19, r19, rfl, h19, y19⟩ := fits_cons y18
  obtain ⟨a20, r20, rfl, h20, y20⟩ := fits_cons y19
  obtain ⟨a21, r21, rfl, h21, y21⟩ := fits_cons y20
  obtain ⟨a22, r22, rfl, h22, y22⟩ := fits_cons y21
  obtain ⟨a23, r23, rfl, h23, y23⟩ := fits_cons y22
  obtain ⟨a24, r24, rfl, h24, y24⟩ := fits_cons y23
  obtain ⟨a25, r25, rfl, h25, y25⟩ := fits_cons y24
  obtain rfl := fits_nil y25
  clear hx y0 y1 y2 y3 y4 y5 y6 y7 y8 y9 y10 y11 y12 y13 y14 y15 y16 y17 y18 y19 y20 y21 y22 y23 y24 y25
  have q0 : 0 ≤ a0 ∧ a0 < 256 := rng8 h0
  have q1 : 0 ≤ a1 ∧ a1 < 256 := rng8 h1
  have q2 : 0 ≤ a2 ∧ a2 < 256 := rng8 h2
  have q3 : 0 ≤ a3 ∧ a3 < 256 := rng8 h3
  have q4 : 0 ≤ a4 ∧ a4 < 4294967296 := rng32 h4
  have q5 : 0 ≤ a5 ∧ a5 < 256 := rng8 h5
  have q6 : 0 ≤ a6 ∧ a6 < 4294967296 := rng32 h6
  have q7 : 0 ≤ a7 ∧ a7 < 256 := rng8 h7
  have q8 : 0 ≤ a8 ∧ a8 < 65536 := rng16 h8
  have q9 : 0 ≤ a9 ∧ a9 < 65536 := rng16 h9
  have q10 : 0 ≤ a10 ∧ a10 < 65536 := rng16 h10
  have q11 : 0 ≤ a11 ∧ a11 < 65536 := rng16 h11
  have q13 : 0 ≤ a13 ∧ a13 < 256 := rng8 h13
  have q14 : 0 ≤ a14 ∧ a14 < 256 := rng8 h14
  have q15 : 0 ≤ a15 ∧ a15 < 256 := rng8 h15
  have q16 : 0 ≤ a16 ∧ a16 < 256 := rng8 h16
  have q17 : 0 ≤ a17 ∧ a17 < 4294967296 := rng32 h17
  have q18 : 0 ≤ a18 ∧ a18 < 256 := rng8 h18
  have q19 : 0 ≤ a19 ∧ a19 < 4294967296 := rng32 h19
  have q20 : 0 ≤ a20 ∧ a20 < 256 := rng8 h20
  have q21 : 0 ≤ a21 ∧ a21 < 65536 := rng16 h21
  have q22 : 0 ≤ a22 ∧ a22 < 65536 := rng16 h22
  have q23 : 0 ≤ a23 ∧ a23 < 65536 := rng16 h23
  have q24 : 0 ≤ a24 ∧ a24 < 65536 := rng16 h24
  show outsE (fnOf T61 es45) [a0, a1, a2, a3, a4, a5, a6, a7, a8, a9, a10, a11, a12, a13, a14, a15, a16, a17, a18, a19, a20, a21, a22, a23, a24, a25] 0 [.i .u8, .i .u8, .i .u8, .i .u8, .i .u32, .i .u8, .i .u32, .i .u8, .i .u16, .i .u16, .i .u16, .i .u16, .b, .i .i64] = [K.norm (.i .u8) (comC (fun i => [a0, a1, a2, a3, a4, a5, a6, a7, a8, a9, a10, a11, a12].getD i 0) (fun i => [a13, a14, a15, a16, a17, a18, a19, a20, a21, a22, a23, a24, a25].getD i 0) 0), K.norm (.i .u8) (comC (fun i => [a0, a1, a2, a3, a4, a5, a6, a7, a8, a9, a10, a11, a12].getD i 0) (fun i => [a13, a14, a15, a16, a17, a18, a19, a20, a21, a22, a23, a24, a25].getD i 0) 1), K.norm (.i .u8) (comC (fun i => [a0, a1, a2, a3, a4, a5, a6, a7, a8, a9, a10, a11, a12].getD i 0) (fun i => [a13, a14, a15, a16, a17, a18, a19, a20, a21, a22, a23, a24, a25].getD i 0) 2), K.norm (.i .u8) (comC (fun i => [a0, a1, a2, a3, a4, a5, a6, a7, a8, a9, a10, a11, a12].getD i 0) (fun i => [a13, a14, a15, a16, a17, a18, a19, a20, a21, a22, a23, a24, a25].getD i 0) 3), K.norm (.i .u32) (comC (fun i => [a0, a1, a2, a3, a4, a5, a6, a7, a8, a9, a10, a11, a12].getD i 0) (fun i => [a13, a14, a15, a16, a17, a18, a19, a20, a21, a22, a23, a24, a25].getD i 0) 4), K.norm (.i .u8) (comC (fun i => [a0, a1, a2, a3, a4, a5, a6, a7, a8, a9, a10, a11, a12].getD i 0) (fun i => [a13, a14, a15, a16, a17, a18, a19, a20, a21, a22, a23, a24, a25].getD i 0) 5), K.norm (.i .u32) (comC (fun i => [a0, a1, a2, a3, a4, a5, a6, a7, a8, a9, a10, a11, a12].getD i 0) (fun i => [a13, a14, a15, a16, a17, a18, a19, a20, a21, a22, a23, a24, a25].getD i 0) 6), K.norm (.i .u8) (comC (fun i => [a0, a1, a2, a3, a4, a5, a6, a7, a8, a9, a10, a11, a12].getD i 0) (fun i => [a13, a14, a15, a16, a17, a18, a19, a20, a21, a22, a23, a24, a25].getD i 0) 7), K.norm (.i .u16) (comC (fun i => [a0, a1, a2, a3, a4, a5, a6, a7, a8, a9, a10, a11, a12].getD i 0) (fun i => [a13, a14, a15, a16, a17, a18, a19, a20, a21, a22, a23, a24, a25].getD i 0) 8), K.norm (.i .u16) (comC (fun i => [a0, a1, a2, a3, a4, a5, a6, a7, a8, a9, a10, a11, a12].getD i 0) (fun i => [a13, a14, a15, a16, a17, a18, a19, a20, a21, a22, a23, a24, a25].getD i 0) 9), K.norm (.i .u16) (comC (fun i => [a0, a1, a2, a3, a4, a5, a6, a7, a8, a9, a10, a11, a12].getD i 0) (fun i => [a13, a14, a15, a16, a17, a18, a19, a20, a21, a22, a23, a24, a25].getD i 0) 10), K.norm (.i .u16) (comC (fun i => [a0, a1, a2, a3, a4, a5, a6, a7, a8, a9, a10, a11, a12].getD i 0) (fun i => [a13, a14, a15, a16, a17, a18, a19, a20, a21, a22, a23, a24, a25].getD i 0) 11), K.norm (.b) (comC (fun i => [a0, a1, a2, a3, a4, a5, a6, a7, a8, a9, a10, a11, a12].getD i 0) (fun i => [a13, a14, a15, a16, a17, a18, a19, a20, a21, a22, a23, a24, a25].getD i 0) 12), K.norm (.i .i64) (comE (fun i => [a0, a1, a2, a3, a4, a5, a6, a7, a8, a9, a10, a11, a12].getD i 0) (fun i => [a13, a14, a15, a16, a17, a18, a19, a20, a21, a22, a23, a24, a25].getD i 0))]
  have F26 : ∀ xs, T61.F 26 0 xs = b2i (rightS fun i => xs.getD i 0) := fun _ => rfl
  have B0 : ∀ xs, T61.F 540 0 xs = b2i (bitB (xs.getD 0 0) 0) := fun _ => rfl
  have B1 : ∀ xs, T61.F 541 0 xs = b2i (bitB (xs.getD 0 0) 1) := fun _ => rfl
  have B2 : ∀ xs, T61.F 542 0 xs = b2i (bitB (xs.getD 0 0) 2) := fun _ => rfl
  have B3 : ∀ xs, T61.F 543 0 xs = b2i (bitB (xs.getD 0 0) 3) := fun _ => rfl
  have B4 : ∀ xs, T61.F 544 0 xs = b2i (bitB (xs.getD 0 0) 4) := fun _ => rfl
  have B5 : ∀ xs, T61.F 545 0 xs = b2i (bitB (xs.getD 0 0) 5) := fun _ => rfl
  have B6 : ∀ xs, T61.F 546 0 xs = b2i (bitB (xs.getD 0 0) 6) := fun _ => rfl
  have B7 : ∀ xs, T61.F 547 0 xs = b2i (bitB (xs.getD 0 0) 7) := fun _ => rfl
  have hA : RuleIn (fun i => [a0, a1, a2, a3, a4, a5, a6, a7, a8, a9, a10, a11, a12].getD i 0) := rule1 q0 q1 q2 q3 q4 q5 q6 q7 q8 q9 q10 q11
  have hB : RuleIn (fun i => [a13, a14, a15, a16, a17, a18, a19, a20, a21, a22, a23, a24, a25].getD i 0) := rule1 q13 q14 q15 q16 q17 q18 q19 q20 q21 q22 q23 q24
  have F60 : ∀ xs, T61.F 60 0 xs = (bif subP (xs.getD 0 0) (xs.getD 1 0) (xs.getD 2 0) (xs.getD 3 0) then xs.getD 0 0 else xs.getD 2 0) := fun _ => rfl
  have G60 : ∀ xs, T61.F 60 1 xs = (bif subP (xs.getD 0 0) (xs.getD 1 0) (xs.getD 2 0) (xs.getD 3 0) then xs.getD 1 0 else xs.getD 3 0) := fun _ => rfl
  have H60 : ∀ xs, T61.F 60 2 xs = b2i (subP (xs.getD 0 0) (xs.getD 1 0) (xs.getD 2 0) (xs.getD 3 0) || subP (xs.getD 2 0) (xs.getD 3 0) (xs.getD 0 0) (xs.getD 1 0)) := fun _ => rfl
  have F61 : ∀ xs, T61.F 61 0 xs = max (xs.getD 0 0) (xs.getD 2 0) := fun _ => rfl
  have G61 : ∀ xs, T61.F 61 1 xs = min (xs.getD 1 0) (xs.getD 3 0) := fun _ => rfl
  have H61 : ∀ xs, T61.F 61 2 xs = b2i (decide (max (xs.getD 0 0) (xs.getD 2 0) ≤ min (xs.getD 1 0) (xs.getD 3 0))) := fun _ => rfl
  simp only [outsE, es45, c45x0, c45x1, c45x2, c45x3, c45x4, c45x5, c45x6, c45x7, c45x8, c45x9, c45x10, c45x11, c45x12, c45x13, c45x14, fnOf, E.den, E.denL, binI, dvI, shI, cmpB, List.getD_cons_zero, List.getD_cons_succ, i2b_b2i, norm_b2i, F26, F60, G60, H60, F61, G61, H61, B0, B1, B2, B3, B4, B5, B6, B7, h0, h1, h2, h3, h4, h5, h6, h7, h8, h9, h10, h11, h12, h13, h14, h15, h16, h17, h18, h19, h20, h21, h22, h23, h24, h25, Nat.zero_add, Nat.reduceAdd, b2i_eq, orn]
  have n0 : K.norm (.i .u8) 0 = 0 := rfl
  have n2 : K.norm (.i .u8) 2 = 2 := rfl
  simp only [n0, n2]
  unfold comC comE
  cases hr : rightS (fun i => [a0, a1, a2, a3, a4, a5, a6, a7, a8, a9, a10, a11, a12].getD i 0)
  · rfl
  cases hs : rightS (fun i => [a13, a14, a15, a16, a17, a18, a19, a20, a21, a22, a23, a24, a25].getD i 0)
  · rfl
  have rA := (rightS_iff _).1 hr
  have rB := (rightS_iff _).1 hs
  have pA : Pfx a4 a5 := hA.src rA
  have pB : Pfx a17 a18 := hB.src rB
  have pC : Pfx a6 a7 := hA.dst rA
  have pD : Pfx a19 a20 := hB.dst rB
  have e : cmS (fun i => [a0, a1, a2, a3, a4, a5, a6, a7, a8, a9, a10, a11, a12].getD i 0) (fun i => [a13, a14, a15, a16, a17, a18, a19, a20, a21, a22, a23, a24, a25].getD i 0) = !((!(a0 == 2) && (a13 != 2 && a13 != a0)) || ((!(a1 == 0) && (a14 != 0 && a14 != a1)) || ((!(subP a4 a5 a17 a18 || subP a17 a18 a4 a5) || !(subP a6 a7 a19 a20 || subP a19 a20 a6 a7) || !decide (max a8 a21 ≤ min a9 a22) || !decide (max a10 a23 ≤ min a11 a24)) || (((bitB a2 0 && bitB a15 0) && !(bitB a3 0 == bitB a16 0)) || (((bitB a2 1 && bitB a15 1) && !(bitB a3 1 == bitB a16 1)) || (((bitB a2 2 && bitB a15 2) && !(bitB a3 2 == bitB a16 2)) || (((bitB a2 3 && bitB a15 3) && !(bitB a3 3 == bitB a16 3)) || (((bitB a2 4 && bitB a15 4) && !(bitB a3 4 == bitB a16 4)) || (((bitB a2 5 && bitB a15 5) && !(bitB a3 5 == bitB a16 5)) || (((bitB a2 6 && bitB a15 6) && !(bitB a3 6 == bitB a16 6)) || ((bitB a2 7 && bitB a15 7) && !(bitB a3 7 == bitB a16 7)))))))))))) := by
    have ef := flM_not a2 a3 a15 a16 q2
    unfold flI at ef
    simp only [cmS, List.getD_cons_zero, List.getD_cons_succ]
    rw [ef]
    generalize (((bitB a2 0 && bitB a15 0) && !(bitB a3 0 == bitB a16 0)) || (((bitB a2 1 && bitB a15 1) && !(bitB a3 1 == bitB a16 1)) || (((bitB a2 2 && bitB a15 2) && !(bitB a3 2 == bitB a16 2)) || (((bitB a2 3 && bitB a15 3) && !(bitB a3 3 == bitB a16 3)) || (((bitB a2 4 && bitB a15 4) && !(bitB a3 4 == bitB a16 4)) || (((bitB a2 5 && bitB a15 5) && !(bitB a3 5 == bitB a16 5)) || (((bitB a2 6 && bitB a15 6) && !(bitB a3 6 == bitB a16 6)) || ((bitB a2 7 && bitB a15 7) && !(bitB a3 7 == bitB a16 7))))))))) = fl
    generalize (subP a4 a5 a17 a18 || subP a17 a18 a4 a5) = s1
    generalize (subP a6 a7 a19 a20 || subP a19 a20 a6 a7) = s2
    generalize decide (max a8 a21 ≤ min a9 a22) = s3
    generalize decide (max a10 a23 ≤ min a11 a24) = s4
    grind
  rw [e]
  clear e
  generalize hc2 : (!(a0 == 2) && (a13 != 2 && a13 != a0)) = c2
  generalize hc3 : (!(a1 == 0) && (a14 != 0 && a14 != a1)) = c3
  generalize hc5 : (!(subP a4 a5 a17 a18 || subP a17 a18 a4 a5) || !(subP a6 a7 a19 a20 || subP a19 a20 a6 a7) || !decide (max a8 a21 ≤ min a9 a22) || !decide (max a10 a23 ≤ min a11 a24)) = c5
  generalize (((bitB a2 0 && bitB a15 0) && !(bitB a3 0 == bitB a16 0)) || (((bitB a2 1 && bitB a15 1) && !(bitB a3 1 == bitB a16 1)) || (((bitB a2 2 && bitB a15 2) && !(bitB a3 2 == bitB a16 2)) || (((bitB a2 3 && bitB a15 3) && !(bitB a3 3 == bitB a16 3)) || (((bitB a2 4 && bitB a15 4) && !(bitB a3 4 == bitB a16 4)) || (((bitB a2 5 && bitB a15 5) && !(bitB a3 5 == bitB a16 5)) || (((bitB a2 6 && bitB a15 6) && !(bitB a3 6 == bitB a16 6)) || ((bitB a2 7 && bitB a15 7) && !(bitB a3 7 == bitB a16 7))))))))) = fl
  cases c2
  rotate_left
  · rfl
  cases c3
  rotate_left
  · rfl
  cases c5
  rotate_left
  · rfl
  cases fl
  rotate_left
  · rfl
  simp only [Bool.or_eq_false_iff, Bool.not_eq_false'] at hc5
  obtain ⟨⟨⟨k1, k2⟩, _⟩, _⟩ := hc5
  have w1 := pick_pfx pA pB (by simpa using k1)
  have w2 := pick_pfx pC pD (by simpa using k2)
  have m1 : (bif a1 == 0 then a14 else a1) = max a1 a14 := by
    rw [bif_beq]
    simp only [Bool.and_eq_false_iff, Bool.not_eq_false', beq_iff_eq, bne_eq_false_iff_eq] at hc3
    split <;> omega
  have so2 := sum_or a2 a15 q2 q15
  have so3 := sum_or a3 a16 q3 q16
  unfold sumB at so2 so3
  simp only [Bool.not_true, Bool.not_false, Bool.or_self, Bool.or_false, Bool.and_self, Bool.true_and, Bool.and_true, cond_true, cond_false, cmnF, List.getD_cons_zero, List.getD_cons_succ, b2i_i2b h12, w1, w2, m1]
  simp only [K.norm, wrap8, Int.reduceMod] at so2 so3 ⊢
  simp only [so2, so3, Int.emod_emod]
  rw [show (if a12 = 0 then (0 : Int) else 1) = a12 from h12]
  simp only [wrap32, wrap16, Int.emod_emod]
  rfl
theorem ok45 : EntryOK Tryd.prog G0 en45 := ok45'.congr lem45
def T45 : Tabs := en45 :: T61
theorem tok45 : TabsOK Tryd.prog G0 T45 := .cons ok45 tok61

end Go.Proofs.YtbolcnlenmphhaaDoor
