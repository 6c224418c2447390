/- Layer 26: summaries of the functions, fourth part: rules within one another. Printed by a program from the evaluator's own output; the lemmas by hand. -/
import Derived.Test.YtbolcnlenmphhaaDoorS3
set_option linter.unusedVariables false
set_option linter.unusedSimpArgs false
namespace Go.Proofs.YtbolcnlenmphhaaDoor
open Go Go.RowKit Ev

theorem rule1 {a0 a1 a2 a3 a4 a5 a6 a7 a8 a9 a10 a11 a12 : Int} (q0 : 0 ≤ a0 ∧ a0 < 256) (q1 : 0 ≤ a1 ∧ a1 < 256) (q2 : 0 ≤ a2 ∧ a2 < 256) (q3 : 0 ≤ a3 ∧ a3 < 256) (q4 : 0 ≤ a4 ∧ a4 < 4294967296) (q5 : 0 ≤ a5 ∧ a5 < 256) (q6 : 0 ≤ a6 ∧ a6 < 4294967296) (q7 : 0 ≤ a7 ∧ a7 < 256)
    (q8 : 0 ≤ a8 ∧ a8 < 65536) (q9 : 0 ≤ a9 ∧ a9 < 65536) (q10 : 0 ≤ a10 ∧ a10 < 65536) (q11 : 0 ≤ a11 ∧ a11 < 65536) : RuleIn (fun i => [a0, a1, a2, a3, a4, a5, a6, a7, a8, a9, a10, a11, a12].getD i 0) :=
  ⟨q0, q1, q2, q3, q4, q5, q6, q7, q8, q9, q10, q11⟩

def c14x0 : List E :=
  [(.var (.i .u8) 0), (.var (.i .u8) 1), (.var (.i .u8) 2), (.var (.i .u8) 3), (.var (.i .u32) 4), (.var (.i .u8) 5), (.var (.i .u32) 6), (.var (.i .u8) 7), (.var (.i .u16) 8), (.var (.i .u16) 9), (.var (.i .u16) 10), (.var (.i .u16) 11),
    (.var .b 12)]
def c14x1 : List E :=
  [(.var (.i .u8) 13), (.var (.i .u8) 14), (.var (.i .u8) 15), (.var (.i .u8) 16), (.var (.i .u32) 17), (.var (.i .u8) 18), (.var (.i .u32) 19), (.var (.i .u8) 20), (.var (.i .u16) 21), (.var (.i .u16) 22), (.var (.i .u16) 23), (.var (.i
    .u16) 24), (.var .b 25)]
def es14 : List E :=
  [(.and (.not (.or (.not (.app .b 17 0 c14x0)) (.not (.app .b 17 0 c14x1)))) (.app .b 129 0 [(.app (.i .u32) 30 0 c14x0), (.app (.i .u32) 30 1 c14x0), (.app (.i .u32) 30 2 c14x0), (.app (.i .u32) 30 3 c14x0), (.app (.i .u32) 30 4 c14x0),
    (.app (.i .u32) 30 5 c14x0), (.app (.i .u32) 30 6 c14x0), (.app (.i .u32) 30 7 c14x0), (.app (.i .u32) 30 8 c14x0), (.app (.i .u32) 30 9 c14x0), (.app (.i .u32) 30 10 c14x0), (.app (.i .u32) 30 11 c14x0), (.app (.i .u32) 30 12 c14x0), (.app
    (.i .u32) 30 13 c14x0), (.app (.i .u32) 30 14 c14x0), (.app (.i .u32) 30 15 c14x0), (.app (.i .u32) 30 16 c14x0), (.app (.i .u32) 30 17 c14x0), (.app (.i .u32) 30 18 c14x0), (.app (.i .u32) 30 19 c14x0), (.app (.i .u32) 30 20 c14x0), (.app
    (.i .u32) 30 21 c14x0), (.app (.i .u32) 30 22 c14x0), (.app (.i .u32) 30 23 c14x0), (.app (.i .u32) 30 24 c14x0), (.app (.i .u32) 30 25 c14x0), (.app (.i .u32) 30 26 c14x0), (.app (.i .u32) 30 27 c14x0), (.app (.i .u32) 30 0 c14x1), (.app
    (.i .u32) 30 1 c14x1), (.app (.i .u32) 30 2 c14x1), (.app (.i .u32) 30 3 c14x1), (.app (.i .u32) 30 4 c14x1), (.app (.i .u32) 30 5 c14x1), (.app (.i .u32) 30 6 c14x1), (.app (.i .u32) 30 7 c14x1), (.app (.i .u32) 30 8 c14x1), (.app (.i
    .u32) 30 9 c14x1), (.app (.i .u32) 30 10 c14x1), (.app (.i .u32) 30 11 c14x1), (.app (.i .u32) 30 12 c14x1), (.app (.i .u32) 30 13 c14x1), (.app (.i .u32) 30 14 c14x1), (.app (.i .u32) 30 15 c14x1), (.app (.i .u32) 30 16 c14x1), (.app (.i
    .u32) 30 17 c14x1), (.app (.i .u32) 30 18 c14x1), (.app (.i .u32) 30 19 c14x1), (.app (.i .u32) 30 20 c14x1), (.app (.i .u32) 30 21 c14x1), (.app (.i .u32) 30 22 c14x1), (.app (.i .u32) 30 23 c14x1), (.app (.i .u32) 30 24 c14x1), (.app (.i
    .u32) 30 25 c14x1), (.app (.i .u32) 30 26 c14x1), (.app (.i .u32) 30 27 c14x1)])), (.ite (.or (.not (.app .b 17 0 c14x0)) (.not (.app .b 17 0 c14x1))) (.lit (.i .i64) 260) (.lit (.i .i64) 0))]
def en14' : Entry := ⟨14, 14, [.a ruleK, .a ruleK], .tup [.s (.b), .s (.i .i64)], fnOf T3 es14⟩
theorem ok14' : EntryOK Tryd.prog G0 en14' := evE_ok (N := 200) (n := 20) (by kernel_rfl) tok3 (by kernel_rfl)
def en14 : Entry := ⟨14, 14, [.a ruleK, .a ruleK], .tup [.s (.b), .s (.i .i64)], fun j xs => match j with | 0 => b2i (winB (fun i => xs.getD i 0) (fun i => xs.getD (i + 13) 0)) | _ => winE (fun i => xs.getD i 0) (fun i => xs.getD (i + 13) 0)⟩
theorem lem14 : ∀ xs, fits (allKs en14'.ps) xs → outsE en14'.fn xs 0 en14'.rs.ks = outsE en14.fn xs 0 en14.rs.ks := by
  intro xs hx
  replace hx : fits [.i .u8, .i .u8, .i .u8, .i .u8, .i .u32, .i .u8, .i .u32, .i .u8, .i .u16, .i .u16, .i .u16, .i .u16, .b, .i .u8, .i .u8, .i .u8, .i .u8, .i .u32, .i .u8, .i .u32, .i .u8, .i .u16, .i .u16, .i .u16, .i .u16, .b] xs := hx
  obtain ⟨a0, r0, rfl, h0, y0⟩ := fits_cons hx
  obtain ⟨a1, r1, rfl, h1, y1⟩ := fits_cons y0
  obtain ⟨a2, r2, rfl, h2, y2⟩ := fits_cons y1
  obtain ⟨a3, r3, rfl, h3, y3⟩ := fits_cons y2
  obtain ⟨a4, r4, rfl, h4, y4⟩ := fits_cons y3
  obtain ⟨a5, r5, rfl, h5, y5⟩ := fits_cons y4
  obtain ⟨a6, r6, rfl, h6, y6⟩ := fits_cons y5
  obtain ⟨a7, r7, rfl, h7, y7⟩ := fits_cons y6
  obtain ⟨a8, r8, rfl, h8, y8⟩ := fits_cons y7
  obtain ⟨a9, r9, rfl, h9, y9⟩ := fits_cons y8
  obtain ⟨a10, r10, rfl, h10, y10⟩ := fits_cons y9
  obtain ⟨a11, r11, rfl, h11, y11⟩ := fits_cons y10
  obtain ⟨a12, r12, rfl, h12, y12⟩ := fits_cons y11
  obtain ⟨a13, r13, rfl, h13, y13⟩ := fits_cons y12
  obtain ⟨a14, r14, rfl, h14, y14⟩ := fits_cons y13
  obtain ⟨a15, r15, rfl, h15, y15⟩ := fits_cons y14
  obtain ⟨a16, r16, rfl, h16, y16⟩ := fits_cons y15
  obtain ⟨a17, r17, rfl, h17, y17⟩ := fits_cons y16
  obtain ⟨a18, r18, rfl, h18, y18⟩ := fits_cons y17
  obtain ⟨a19, r19, rfl, h19, y19⟩ := fits_cons y18
  obtain ⟨a20, r20, rfl, h20, y20⟩ := fits_cons y19
  obtain ⟨a21, r21, rfl, h21, y21⟩ := fits_cons y20
  obtain ⟨a22, r22, rfl, h22, y22⟩ := fits_cons y21
  obtain ⟨a23, r23, rfl, h23, y23⟩ := fits_cons y22
  obtain ⟨a24, r24, rfl, h24, y24⟩ := fits_cons y23
  obtain ⟨a25, r25, rfl, h25, y25⟩ := fits_cons y24
  obtain rfl := fits_nil y25
  clear hx y0 y1 y2 y3 y4 y5 y6 y7 y8 y9 y10 y11 y12 y13 y14 y15 y16 y17 y18 y19 y20 y21 y22 y23 y24 y25
  have q0 : 0 ≤ a0 ∧ a0 < 256 := rng8 h0
  have q1 : 0 ≤ a1 ∧ a1 < 256 := rng8 h1
  have q2 : 0 ≤ a2 ∧ a2 < 256 := rng8 h2
  have q3 : 0 ≤ a3 ∧ a3 < 256 := rng8 h3
  have q4 : 0 ≤ a4 ∧ a4 < 4294967296 := rng32 h4
  have q5 : 0 ≤ a5 ∧ a5 < 256 := rng8 h5
  have q6 : 0 ≤ a6 ∧ a6 < 4294967296 := rng32 h6
  have q7 : 0 ≤ a7 ∧ a7 < 256 := rng8 h7
  have q8 : 0 ≤ a8 ∧ a8 < 65536 := rng16 h8
  have q9 : 0 ≤ a9 ∧ a9 < 65536 := rng16 h9
  have q10 : 0 ≤ a10 ∧ a10 < 65536 := rng16 h10
  have q11 : 0 ≤ a11 ∧ a11 < 65536 := rng16 h11
  have q13 : 0 ≤ a13 ∧ a13 < 256 := rng8 h13
  have q14 : 0 ≤ a14 ∧ a14 < 256 := rng8 h14
  have q15 : 0 ≤ a15 ∧ a15 < 256 := rng8 h15
  have q16 : 0 ≤ a16 ∧ a16 < 256 := rng8 h16
  have q17 : 0 ≤ a17 ∧ a17 < 4294967296 := rng32 h17
  have q18 : 0 ≤ a18 ∧ a18 < 256 := rng8 h18
  have q19 : 0 ≤ a19 ∧ a19 < 4294967296 := rng32 h19
  have q20 : 0 ≤ a20 ∧ a20 < 256 := rng8 h20
  have q21 : 0 ≤ a21 ∧ a21 < 65536 := rng16 h21
  have q22 : 0 ≤ a22 ∧ a22 < 65536 := rng16 h22
  have q23 : 0 ≤ a23 ∧ a23 < 65536 := rng16 h23
  have q24 : 0 ≤ a24 ∧ a24 < 65536 := rng16 h24
  show outsE (fnOf T3 es14) [a0, a1, a2, a3, a4, a5, a6, a7, a8, a9, a10, a11, a12, a13, a14, a15, a16, a17, a18, a19, a20, a21, a22, a23, a24, a25] 0 [.b, .i .i64] = outsE (fun j xs => match j with | 0 => b2i (winB (fun i => xs.getD i 0) (fun i => xs.getD (i + 13) 0)) | _ => winE (fun i => xs.getD i 0) (fun i => xs.getD (i + 13) 0)) [a0, a1, a2, a3, a4, a5, a6, a7, a8, a9, a10, a11, a12, a13, a14, a15, a16, a17, a18, a19, a20, a21, a22, a23, a24, a25] 0 [.b, .i .i64]
  have F17 : ∀ xs, T3.F 17 0 xs = b2i (rightS fun i => xs.getD i 0) := fun _ => rfl
  have F129 : ∀ xs, T3.F 129 0 xs = b2i (all7i fun i => xs.getD i 0) := fun _ => rfl
  have F30 : ∀ j xs, T3.F 30 j xs = fieldsF (fun i => xs.getD i 0) j := fun _ _ => rfl
  have hA : RuleIn (fun i => [a0, a1, a2, a3, a4, a5, a6, a7, a8, a9, a10, a11, a12].getD i 0) := rule1 q0 q1 q2 q3 q4 q5 q6 q7 q8 q9 q10 q11
  have hB : RuleIn (fun i => [a13, a14, a15, a16, a17, a18, a19, a20, a21, a22, a23, a24, a25].getD i 0) := rule1 q13 q14 q15 q16 q17 q18 q19 q20 q21 q22 q23 q24
  refine outs_two ?_ ?_
  · show fnOf T3 es14 0 [a0, a1, a2, a3, a4, a5, a6, a7, a8, a9, a10, a11, a12, a13, a14, a15, a16, a17, a18, a19, a20, a21, a22, a23, a24, a25] = b2i (winB (fun i => [a0, a1, a2, a3, a4, a5, a6, a7, a8, a9, a10, a11, a12].getD i 0) (fun i => [a13, a14, a15, a16, a17, a18, a19, a20, a21, a22, a23, a24, a25].getD i 0))
    simp only [es14, c14x0, c14x1, fnOf, E.den, E.denL, binI, dvI, shI, cmpB, List.getD_cons_zero, List.getD_cons_succ, i2b_b2i, norm_b2i, F17, F129, F30, h0, h1, h2, h3, h4, h5, h6, h7, h8, h9, h10, h11, h12, h13, h14, h15, h16, h17, h18, h19, h20, h21, h22, h23, h24, h25]
    simp only [fieldsF_norm hA, fieldsF_norm hB]
    congr 1
    unfold winB
    generalize hr : rightS (fun i => [a0, a1, a2, a3, a4, a5, a6, a7, a8, a9, a10, a11, a12].getD i 0) = r
    generalize hs : rightS (fun i => [a13, a14, a15, a16, a17, a18, a19, a20, a21, a22, a23, a24, a25].getD i 0) = s
    cases r
    · rfl
    cases s
    · rfl
    rw [← ins_all hA hB ((rightS_iff _).1 hr) ((rightS_iff _).1 hs)]
    rfl
  · show fnOf T3 es14 1 [a0, a1, a2, a3, a4, a5, a6, a7, a8, a9, a10, a11, a12, a13, a14, a15, a16, a17, a18, a19, a20, a21, a22, a23, a24, a25] = winE (fun i => [a0, a1, a2, a3, a4, a5, a6, a7, a8, a9, a10, a11, a12].getD i 0) (fun i => [a13, a14, a15, a16, a17, a18, a19, a20, a21, a22, a23, a24, a25].getD i 0)
    simp only [es14, c14x0, c14x1, fnOf, E.den, E.denL, binI, dvI, shI, cmpB, List.getD_cons_zero, List.getD_cons_succ, i2b_b2i, norm_b2i, F17, h0, h1, h2, h3, h4, h5, h6, h7, h8, h9, h10, h11, h12, h13, h14, h15, h16, h17, h18, h19, h20, h21, h22, h23, h24, h25]
    unfold winE
    generalize rightS (fun i => [a0, a1, a2, a3, a4, a5, a6, a7, a8, a9, a10, a11, a12].getD i 0) = r
    generalize rightS (fun i => [a13, a14, a15, a16, a17, a18, a19, a20, a21, a22, a23, a24, a25].getD i 0) = s
    cases r <;> cases s <;> rfl
theorem ok14 : EntryOK Tryd.prog G0 en14 := ok14'.congr lem14
def T14 : Tabs := en14 :: T3
theorem tok14 : TabsOK Tryd.prog G0 T14 := .cons ok14 tok3

def es64 : List E :=
  [(.and (.cmp .leq (.var (.i .u8) 3) (.var (.i .u8) 1)) (.app .b 63 0 [(.var (.i .u32) 2), (.var (.i .u8) 3), (.var (.i .u32) 0)]))]
def en64' : Entry := ⟨64, 64, [.a [.i .u32, .i .u8], .a [.i .u32, .i .u8]], .one (.s (.b)), fnOf T14 es64⟩
theorem ok64' : EntryOK Tryd.prog G0 en64' := evE_ok (N := 200) (n := 20) (by kernel_rfl) tok14 (by kernel_rfl)
def en64 : Entry := ⟨64, 64, [.a [.i .u32, .i .u8], .a [.i .u32, .i .u8]], .one (.s (.b)), fun _ xs => b2i (subP (xs.getD 0 0) (xs.getD 1 0) (xs.getD 2 0) (xs.getD 3 0))⟩
theorem lem64 : ∀ xs, fits (allKs en64'.ps) xs → outsE en64'.fn xs 0 en64'.rs.ks = outsE en64.fn xs 0 en64.rs.ks := by
  intro xs hx
  replace hx : fits [.i .u32, .i .u8, .i .u32, .i .u8] xs := hx
  obtain ⟨a0, r0, rfl, h0, y0⟩ := fits_cons hx
  obtain ⟨a1, r1, rfl, h1, y1⟩ := fits_cons y0
  obtain ⟨a2, r2, rfl, h2, y2⟩ := fits_cons y1
  obtain ⟨a3, r3, rfl, h3, y3⟩ := fits_cons y2
  obtain rfl := fits_nil y3
  clear hx y0 y1 y2 y3
  refine outs_one ?_
  show fnOf T14 es64 0 [a0, a1, a2, a3] = b2i (subP a0 a1 a2 a3)
  have F63 : ∀ xs, T14.F 63 0 xs = b2i (inP (xs.getD 0 0) (xs.getD 1 0) (xs.getD 2 0)) := fun _ => rfl
  simp only [es64, fnOf, E.den, E.denL, binI, dvI, shI, cmpB, List.getD_cons_zero, List.getD_cons_succ, i2b_b2i, norm_b2i, F63, h0, h1, h2, h3]
  rfl
theorem ok64 : EntryOK Tryd.prog G0 en64 := ok64'.congr lem64
def T64 : Tabs := en64 :: T14
theorem tok64 : TabsOK Tryd.prog G0 T64 := .cons ok64 tok14

def es65 : List E :=
  [(.and (.cmp .leq (.var (.i .u16) 2) (.var (.i .u16) 0)) (.cmp .leq (.var (.i .u16) 1) (.var (.i .u16) 3)))]
def en65' : Entry := ⟨65, 65, [.a [.i .u16, .i .u16], .a [.i .u16, .i .u16]], .one (.s (.b)), fnOf T64 es65⟩
theorem ok65' : EntryOK Tryd.prog G0 en65' := evE_ok (N := 200) (n := 20) (by kernel_rfl) tok64 (by kernel_rfl)
def en65 : Entry := ⟨65, 65, [.a [.i .u16, .i .u16], .a [.i .u16, .i .u16]], .one (.s (.b)), fun _ xs => b2i (decide (xs.getD 2 0 ≤ xs.getD 0 0) && decide (xs.getD 1 0 ≤ xs.getD 3 0))⟩
theorem lem65 : ∀ xs, fits (allKs en65'.ps) xs → outsE en65'.fn xs 0 en65'.rs.ks = outsE en65.fn xs 0 en65.rs.ks := by
  intro xs hx
  replace hx : fits [.i .u16, .i .u16, .i .u16, .i .u16] xs := hx
  obtain ⟨a0, r0, rfl, h0, y0⟩ := fits_cons hx
  obtain ⟨a1, r1, rfl, h1, y1⟩ := fits_cons y0
  obtain ⟨a2, r2, rfl, h2, y2⟩ := fits_cons y1
  obtain ⟨a3, r3, rfl, h3, y3⟩ := fits_cons y2
  obtain rfl := fits_nil y3
  clear hx y0 y1 y2 y3
  refine outs_one ?_
  show fnOf T64 es65 0 [a0, a1, a2, a3] = b2i (decide (a2 ≤ a0) && decide (a1 ≤ a3))
  simp only [es65, fnOf, E.den, E.denL, binI, dvI, shI, cmpB, List.getD_cons_zero, List.getD_cons_succ, i2b_b2i, norm_b2i, h0, h1, h2, h3]
theorem ok65 : EntryOK Tryd.prog G0 en65 := ok65'.congr lem65
def T65 : Tabs := en65 :: T64
theorem tok65 : TabsOK Tryd.prog G0 T65 := .cons ok65 tok64

def es59 : List E :=
  [(.and (.not (.or (.and (.cmp .neq (.var (.i .u8) 13) (.lit (.i .u8) 2)) (.cmp .neq (.var (.i .u8) 0) (.var (.i .u8) 13))) (.and (.cmp .neq (.var (.i .u8) 14) (.lit (.i .u8) 0)) (.cmp .neq (.var (.i .u8) 1) (.var (.i .u8) 14))))) (.and
    (.not (.or (.or (.or (.not (.app .b 64 0 [(.var (.i .u32) 4), (.var (.i .u8) 5), (.var (.i .u32) 17), (.var (.i .u8) 18)])) (.not (.app .b 64 0 [(.var (.i .u32) 6), (.var (.i .u8) 7), (.var (.i .u32) 19), (.var (.i .u8) 20)]))) (.not (.app
    .b 65 0 [(.var (.i .u16) 8), (.var (.i .u16) 9), (.var (.i .u16) 21), (.var (.i .u16) 22)]))) (.not (.app .b 65 0 [(.var (.i .u16) 10), (.var (.i .u16) 11), (.var (.i .u16) 23), (.var (.i .u16) 24)])))) (.not (.or (.and (.app .b 540 0
    [(.var (.i .u8) 15)]) (.or (.not (.app .b 540 0 [(.var (.i .u8) 2)])) (.not (.cmp .eql (.app .b 540 0 [(.var (.i .u8) 3)]) (.app .b 540 0 [(.var (.i .u8) 16)]))))) (.and (.not (.and (.app .b 540 0 [(.var (.i .u8) 15)]) (.or (.not (.app .b
    540 0 [(.var (.i .u8) 2)])) (.not (.cmp .eql (.app .b 540 0 [(.var (.i .u8) 3)]) (.app .b 540 0 [(.var (.i .u8) 16)])))))) (.or (.and (.app .b 541 0 [(.var (.i .u8) 15)]) (.or (.not (.app .b 541 0 [(.var (.i .u8) 2)])) (.not (.cmp .eql
    (.app .b 541 0 [(.var (.i .u8) 3)]) (.app .b 541 0 [(.var (.i .u8) 16)]))))) (.and (.not (.and (.app .b 541 0 [(.var (.i .u8) 15)]) (.or (.not (.app .b 541 0 [(.var (.i .u8) 2)])) (.not (.cmp .eql (.app .b 541 0 [(.var (.i .u8) 3)]) (.app
    .b 541 0 [(.var (.i .u8) 16)])))))) (.or (.and (.app .b 542 0 [(.var (.i .u8) 15)]) (.or (.not (.app .b 542 0 [(.var (.i .u8) 2)])) (.not (.cmp .eql (.app .b 542 0 [(.var (.i .u8) 3)]) (.app .b 542 0 [(.var (.i .u8) 16)]))))) (.and (.not
    (.and (.app .b 542 0 [(.var (.i .u8) 15)]) (.or (.not (.app .b 542 0 [(.var (.i .u8) 2)])) (.not (.cmp .eql (.app .b 542 0 [(.var (.i .u8) 3)]) (.app .b 542 0 [(.var (.i .u8) 16)])))))) (.or (.and (.app .b 543 0 [(.var (.i .u8) 15)]) (.or
    (.not (.app .b 543 0 [(.var (.i .u8) 2)])) (.not (.cmp .eql (.app .b 543 0 [(.var (.i .u8) 3)]) (.app .b 543 0 [(.var (.i .u8) 16)]))))) (.and (.not (.and (.app .b 543 0 [(.var (.i .u8) 15)]) (.or (.not (.app .b 543 0 [(.var (.i .u8) 2)]))
    (.not (.cmp .eql (.app .b 543 0 [(.var (.i .u8) 3)]) (.app .b 543 0 [(.var (.i .u8) 16)])))))) (.or (.and (.app .b 544 0 [(.var (.i .u8) 15)]) (.or (.not (.app .b 544 0 [(.var (.i .u8) 2)])) (.not (.cmp .eql (.app .b 544 0 [(.var (.i .u8)
    3)]) (.app .b 544 0 [(.var (.i .u8) 16)]))))) (.and (.not (.and (.app .b 544 0 [(.var (.i .u8) 15)]) (.or (.not (.app .b 544 0 [(.var (.i .u8) 2)])) (.not (.cmp .eql (.app .b 544 0 [(.var (.i .u8) 3)]) (.app .b 544 0 [(.var (.i .u8)
    16)])))))) (.or (.and (.app .b 545 0 [(.var (.i .u8) 15)]) (.or (.not (.app .b 545 0 [(.var (.i .u8) 2)])) (.not (.cmp .eql (.app .b 545 0 [(.var (.i .u8) 3)]) (.app .b 545 0 [(.var (.i .u8) 16)]))))) (.and (.not (.and (.app .b 545 0 [(.var
    (.i .u8) 15)]) (.or (.not (.app .b 545 0 [(.var (.i .u8) 2)])) (.not (.cmp .eql (.app .b 545 0 [(.var (.i .u8) 3)]) (.app .b 545 0 [(.var (.i .u8) 16)])))))) (.or (.and (.app .b 546 0 [(.var (.i .u8) 15)]) (.or (.not (.app .b 546 0 [(.var
    (.i .u8) 2)])) (.not (.cmp .eql (.app .b 546 0 [(.var (.i .u8) 3)]) (.app .b 546 0 [(.var (.i .u8) 16)]))))) (.and (.not (.and (.app .b 546 0 [(.var (.i .u8) 15)]) (.or (.not (.app .b 546 0 [(.var (.i .u8) 2)])) (.not (.cmp .eql (.app .b
    546 0 [(.var (.i .u8) 3)]) (.app .b 546 0 [(.var (.i .u8) 16)])))))) (.and (.app .b 547 0 [(.var (.i .u8) 15)]) (.or (.not (.app .b 547 0 [(.var (.i .u8) 2)])) (.not (.cmp .eql (.app .b 547 0 [(.var (.i .u8) 3)]) (.app .b 547 0 [(.var (.i
    .u8) 16)]))))))))))))))))))))))]
def en59' : Entry := ⟨59, 59, [.a ruleK, .a ruleK], .one (.s (.b)), fnOf T65 es59⟩
theorem ok59' : EntryOK Tryd.prog G0 en59' := evE_ok (N := 200) (n := 20) (by kernel_rfl) tok65 (by kernel_rfl)
def en59 : Entry := ⟨59, 59, [.a ruleK, .a ruleK], .one (.s (.b)), fun _ xs => b2i (insS (fun i => xs.getD i 0) (fun i => xs.getD (i + 13) 0))⟩
theorem lem59 : ∀ xs, fits (allKs en59'.ps) xs → outsE en59'.fn xs 0 en59'.rs.ks = outsE en59.fn xs 0 en59.rs.ks := by
  intro xs hx
  replace hx : fits [.i .u8, .i .u8, .i .u8, .i .u8, .i .u32, .i .u8, .i .u32, .i .u8, .i .u16, .i .u16, .i .u16, .i .u16, .b, .i .u8, .i .u8, .i .u8, .i .u8, .i .u32, .i .u8, .i .u32, .i .u8, .i .u16, .i .u16, .i .u16, .i .u16, .b] xs := hx
  obtain ⟨a0, r0, rfl, h0, y0⟩ := fits_cons hx
  obtain ⟨a1, r1, rfl, h1, y1⟩ := fits_cons y0
  obtain ⟨a2, r2, rfl, h2, y2⟩ := fits_cons y1
  obtain ⟨a3, r3, rfl, h3, y3⟩ := fits_cons y2
  obtain ⟨a4, r4, rfl, h4, y4⟩ := fits_cons y3
  obtain ⟨a5, r5, rfl, h5, y5⟩ := fits_cons y4
  obtain ⟨a6, r6, rfl, h6, y6⟩ := fits_cons y5
  obtain ⟨a7, r7, rfl, h7, y7⟩ := fits_cons y6
  obtain ⟨a8, r8, rfl, h8, y8⟩ := fits_cons y7
  obtain ⟨a9, r9, rfl, h9, y9⟩ := fits_cons y8
  obtain ⟨a10, r10, rfl, h10, y10⟩ := fits_cons y9
  obtain ⟨a11, r11, rfl, h11, y11⟩ := fits_cons y10
  obtain ⟨a12, r12, rfl, h12, y12⟩ := fits_cons y11
  obtain ⟨a13, r13, rfl, h13, y13⟩ := fits_cons y12
  obtain ⟨a14, r14, rfl, h14, y14⟩ := fits_cons y13
  obtain ⟨a15, r15, rfl, h15, y15⟩ := fits_cons y14
  obtain ⟨a16, r16, rfl, h16, y16⟩ := fits_cons y15
  obtain ⟨a17, r17, rfl, h17, y17⟩ := fits_cons y16
  obtain ⟨a18, r18, rfl, h18, y18⟩ := fits_cons y17
  obtain ⟨a19, r19, rfl, h19, y19⟩ := fits_cons y18
  obtain ⟨a20, r20, rfl, h20, y20⟩ := fits_cons y19
  obtain ⟨a21, r21, rfl, h21, y21⟩ := fits_cons y20
  obtain ⟨a22, r22, rfl, h22, y22⟩ := fits_cons y21
  obtain ⟨a23, r23, rfl, h23, y23⟩ := fits_cons y22
  obtain ⟨a24, r24, rfl, h24, y24⟩ := fits_cons y23
  obtain ⟨a25, r25, rfl, h25, y25⟩ := fits_cons y24
  obtain rfl := fits_nil y25
  clear hx y0 y1 y2 y3 y4 y5 y6 y7 y8 y9 y10 y11 y12 y13 y14 y15 y16 y17 y18 y19 y20 y21 y22 y23 y24 y25
  have q0 : 0 ≤ a0 ∧ a0 < 256 := rng8 h0
  have q1 : 0 ≤ a1 ∧ a1 < 256 := rng8 h1
  have q2 : 0 ≤ a2 ∧ a2 < 256 := rng8 h2
  have q3 : 0 ≤ a3 ∧ a3 < 256 := rng8 h3
  have q4 : 0 ≤ a4 ∧ a4 < 4294967296 := rng32 h4
  have q5 : 0 ≤ a5 ∧ a5 < 256 := rng8 h5
  have q6 : 0 ≤ a6 ∧ a6 < 4294967296 := rng32 h6
  have q7 : 0 ≤ a7 ∧ a7 < 256 := rng8 h7
  have q8 : 0 ≤ a8 ∧ a8 < 65536 := rng16 h8
  have q9 : 0 ≤ a9 ∧ a9 < 65536 := rng16 h9
  have q10 : 0 ≤ a10 ∧ a10 < 65536 := rng16 h10
  have q11 : 0 ≤ a11 ∧ a11 < 65536 := rng16 h11
  have q13 : 0 ≤ a13 ∧ a13 < 256 := rng8 h13
  have q14 : 0 ≤ a14 ∧ a14 < 256 := rng8 h14
  have q15 : 0 ≤ a15 ∧ a15 < 256 := rng8 h15
  have q16 : 0 ≤ a16 ∧ a16 < 256 := rng8 h16
  have q17 : 0 ≤ a17 ∧ a17 < 4294967296 := rng32 h17
  have q18 : 0 ≤ a18 ∧ a18 < 256 := rng8 h18
  have q19 : 0 ≤ a19 ∧ a19 < 4294967296 := rng32 h19
  have q20 : 0 ≤ a20 ∧ a20 < 256 := rng8 h20
  have q21 : 0 ≤ a21 ∧ a21 < 65536 := rng16 h21
  have q22 : 0 ≤ a22 ∧ a22 < 65536 := rng16 h22
  have q23 : 0 ≤ a23 ∧ a23 < 65536 := rng16 h23
  have q24 : 0 ≤ a24 ∧ a24 < 65536 := rng16 h24
  refine outs_one ?_
  show fnOf T65 es59 0 [a0, a1, a2, a3, a4, a5, a6, a7, a8, a9, a10, a11, a12, a13, a14, a15, a16, a17, a18, a19, a20, a21, a22, a23, a24, a25] = b2i (insS (fun i => [a0, a1, a2, a3, a4, a5, a6, a7, a8, a9, a10, a11, a12].getD i 0) (fun i => [a13, a14, a15, a16, a17, a18, a19, a20, a21, a22, a23, a24, a25].getD i 0))
  have F64 : ∀ xs, T65.F 64 0 xs = b2i (subP (xs.getD 0 0) (xs.getD 1 0) (xs.getD 2 0) (xs.getD 3 0)) := fun _ => rfl
  have F65 : ∀ xs, T65.F 65 0 xs = b2i (decide (xs.getD 2 0 ≤ xs.getD 0 0) && decide (xs.getD 1 0 ≤ xs.getD 3 0)) := fun _ => rfl
  have B0 : ∀ xs, T65.F 540 0 xs = b2i (bitB (xs.getD 0 0) 0) := fun _ => rfl
  have B1 : ∀ xs, T65.F 541 0 xs = b2i (bitB (xs.getD 0 0) 1) := fun _ => rfl
  have B2 : ∀ xs, T65.F 542 0 xs = b2i (bitB (xs.getD 0 0) 2) := fun _ => rfl
  have B3 : ∀ xs, T65.F 543 0 xs = b2i (bitB (xs.getD 0 0) 3) := fun _ => rfl
  have B4 : ∀ xs, T65.F 544 0 xs = b2i (bitB (xs.getD 0 0) 4) := fun _ => rfl
  have B5 : ∀ xs, T65.F 545 0 xs = b2i (bitB (xs.getD 0 0) 5) := fun _ => rfl
  have B6 : ∀ xs, T65.F 546 0 xs = b2i (bitB (xs.getD 0 0) 6) := fun _ => rfl
  have B7 : ∀ xs, T65.F 547 0 xs = b2i (bitB (xs.getD 0 0) 7) := fun _ => rfl
  simp only [es59, fnOf, E.den, E.denL, binI, dvI, shI, cmpB, List.getD_cons_zero, List.getD_cons_succ, i2b_b2i, norm_b2i, F64, F65, B0, B1, B2, B3, B4, B5, B6, B7, h0, h1, h2, h3, h4, h5, h6, h7, h8, h9, h10, h11, h12, h13, h14, h15, h16, h17, h18, h19, h20, h21, h22, h23, h24, h25]
  simp only [insS, List.getD_cons_zero, List.getD_cons_succ]
  congr 1
  rw [sub8_flB a2 a3 a15 a16 q2 q15]
  simp only [b2i_eq, orn]
  unfold insI
  generalize ((bitB a15 0 && (!bitB a2 0 || !(bitB a3 0 == bitB a16 0))) || ((bitB a15 1 && (!bitB a2 1 || !(bitB a3 1 == bitB a16 1))) || ((bitB a15 2 && (!bitB a2 2 || !(bitB a3 2 == bitB a16 2))) || ((bitB a15 3 && (!bitB a2 3 || !(bitB a3 3 == bitB a16 3))) || ((bitB a15 4 && (!bitB a2 4 || !(bitB a3 4 == bitB a16 4))) || ((bitB a15 5 && (!bitB a2 5 || !(bitB a3 5 == bitB a16 5))) || ((bitB a15 6 && (!bitB a2 6 || !(bitB a3 6 == bitB a16 6))) || (bitB a15 7 && (!bitB a2 7 || !(bitB a3 7 == bitB a16 7)))))))))) = c
  generalize subP a4 a5 a17 a18 = p1
  generalize subP a6 a7 a19 a20 = p2
  simp only [K.norm, wrap8, Int.reduceMod]
  grind
theorem ok59 : EntryOK Tryd.prog G0 en59 := ok59'.congr lem59
def T59 : Tabs := en59 :: T65
theorem tok59 : TabsOK Tryd.prog G0 T59 := .cons ok59 tok65

def c44x0 : List E :=
  [(.var (.i .u8) 0), (.var (.i .u8) 1), (.var (.i .u8) 2), (.var (.i .u8) 3), (.var (.i .u32) 4), (.var (.i .u8) 5), (.var (.i .u32) 6), (.var (.i .u8) 7), (.var (.i .u16) 8), (.var (.i .u16) 9), (.var (.i .u16) 10), (.var (.i .u16) 11),
    (.var .b 12)]
def c44x1 : List E :=
  [(.var (.i .u8) 13), (.var (.i .u8) 14), (.var (.i .u8) 15), (.var (.i .u8) 16), (.var (.i .u32) 17), (.var (.i .u8) 18), (.var (.i .u32) 19), (.var (.i .u8) 20), (.var (.i .u16) 21), (.var (.i .u16) 22), (.var (.i .u16) 23), (.var (.i
    .u16) 24), (.var .b 25)]
def es44 : List E :=
  [(.and (.not (.or (.not (.app .b 26 0 c44x0)) (.not (.app .b 26 0 c44x1)))) (.app .b 59 0 [(.var (.i .u8) 0), (.var (.i .u8) 1), (.var (.i .u8) 2), (.var (.i .u8) 3), (.var (.i .u32) 4), (.var (.i .u8) 5), (.var (.i .u32) 6), (.var (.i .u8)
    7), (.var (.i .u16) 8), (.var (.i .u16) 9), (.var (.i .u16) 10), (.var (.i .u16) 11), (.var .b 12), (.var (.i .u8) 13), (.var (.i .u8) 14), (.var (.i .u8) 15), (.var (.i .u8) 16), (.var (.i .u32) 17), (.var (.i .u8) 18), (.var (.i .u32)
    19), (.var (.i .u8) 20), (.var (.i .u16) 21), (.var (.i .u16) 22), (.var (.i .u16) 23), (.var (.i .u16) 24), (.var .b 25)])), (.ite (.or (.not (.app .b 26 0 c44x0)) (.not (.app .b 26 0 c44x1))) (.lit (.i .i64) 260) (.lit (.i .i64) 0))]
def en44' : Entry := ⟨44, 44, [.a ruleK, .a ruleK], .tup [.s (.b), .s (.i .i64)], fnOf T59 es44⟩
theorem ok44' : EntryOK Tryd.prog G0 en44' := evE_ok (N := 200) (n := 20) (by kernel_rfl) tok59 (by kernel_rfl)
def en44 : Entry := ⟨44, 44, [.a ruleK, .a ruleK], .tup [.s (.b), .s (.i .i64)], fun j xs => match j with | 0 => b2i (winB (fun i => xs.getD i 0) (fun i => xs.getD (i + 13) 0)) | _ => winE (fun i => xs.getD i 0) (fun i => xs.getD (i + 13) 0)⟩
theorem lem44 : ∀ xs, fits (allKs en44'.ps) xs → outsE en44'.fn xs 0 en44'.rs.ks = outsE en44.fn xs 0 en44.rs.ks := by
  intro xs hx
  replace hx : fits [.i .u8, .i .u8, .i .u8, .i .u8, .i .u32, .i .u8, .i .u32, .i .u8, .i .u16, .i .u16, .i .u16, .i .u16, .b, .i .u8, .i .u8, .i .u8, .i .u8, .i .u32, .i .u8, .i .u32, .i .u8, .i .u16, .i .u16, .i .u16, .i .u16, .b] xs := hx
  obtain ⟨a0, r0, rfl, h0, y0⟩ := fits_cons hx
  obtain ⟨a1, r1, rfl, h1, y1⟩ := fits_cons y0
  obtain ⟨a2, r2, rfl, h2, y2⟩ := fits_cons y1
  obtain ⟨a3, r3, rfl, h3, y3⟩ := fits_cons y2
  obtain ⟨a4, r4, rfl, h4, y4⟩ := fits_cons y3
  obtain ⟨a5, r5, rfl, h5, y5⟩ := fits_cons y4
  obtain ⟨a6, r6, rfl, h6, y6⟩ := fits_cons y5
  obtain ⟨a7, r7, rfl, h7, y7⟩ := fits_cons y6
  obtain ⟨a8, r8, rfl, h8, y8⟩ := fits_cons y7
  obtain ⟨a9, r9, rfl, h9, y9⟩ := fits_cons y8
  obtain ⟨a10, r10, rfl, h10, y10⟩ := fits_cons y9
  obtain ⟨a11, r11, rfl, h11, y11⟩ := fits_cons y10
  obtain ⟨a12, r12, rfl, h12, y12⟩ := fits_cons y11
  obtain ⟨a13, r13, rfl, h13, y13⟩ := fits_cons y12
  obtain ⟨a14, r14, rfl, h14, y14⟩ := fits_cons y13
  obtain ⟨a15, r15, rfl, h15, y15⟩ := fits_cons y14
  obtain ⟨a16, r16, rfl, h16, y16⟩ := fits_cons y15
  obtain ⟨a17, r17, rfl, h17, y17⟩ := fits_cons y16
  obtain ⟨a18, r18, rfl, h18, y18⟩ := fits_cons y17
  obtain ⟨a19, r19, rfl, h19, y19⟩ := fits_cons y18
  obtain ⟨a20, r20, rfl, h20, y20⟩ := fits_cons y19
  obtain ⟨a21, r21, rfl, h21, y21⟩ := fits_cons y20
  obtain ⟨a22, r22, rfl, h22, y22⟩ := fits_cons y21
  obtain ⟨a23, r23, rfl, h23, y23⟩ := fits_cons y22
  obtain ⟨a24, r24, rfl, h24, y24⟩ := fits_cons y23
  obtain ⟨a25, r25, rfl, h25, y25⟩ := fits_cons y24
  obtain rfl := fits_nil y25
  clear hx y0 y1 y2 y3 y4 y5 y6 y7 y8 y9 y10 y11 y12 y13 y14 y15 y16 y17 y18 y19 y20 y21 y22 y23 y24 y25
  have q0 : 0 ≤ a0 ∧ a0 < 256 := rng8 h0
  have q1 : 0 ≤ a1 ∧ a1 < 256 := rng8 h1
  have q2 : 0 ≤ a2 ∧ a2 < 256 := rng8 h2
  have q3 : 0 ≤ a3 ∧ a3 < 256 := rng8 h3
  have q4 : 0 ≤ a4 ∧ a4 < 4294967296 := rng32 h4
  have q5 : 0 ≤ a5 ∧ a5 < 256 := rng8 h5
  have q6 : 0 ≤ a6 ∧ a6 < 4294967296 := rng32 h6
  have q7 : 0 ≤ a7 ∧ a7 < 256 := rng8 h7
  have q8 : 0 ≤ a8 ∧ a8 < 65536 := rng16 h8
  have q9 : 0 ≤ a9 ∧ a9 < 65536 := rng16 h9
  have q10 : 0 ≤ a10 ∧ a10 < 65536 := rng16 h10
  have q11 : 0 ≤ a11 ∧ a11 < 65536 := rng16 h11
  have q13 : 0 ≤ a13 ∧ a13 < 256 := rng8 h13
  have q14 : 0 ≤ a14 ∧ a14 < 256 := rng8 h14
  have q15 : 0 ≤ a15 ∧ a15 < 256 := rng8 h15
  have q16 : 0 ≤ a16 ∧ a16 < 256 := rng8 h16
  have q17 : 0 ≤ a17 ∧ a17 < 4294967296 := rng32 h17
  have q18 : 0 ≤ a18 ∧ a18 < 256 := rng8 h18
  have q19 : 0 ≤ a19 ∧ a19 < 4294967296 := rng32 h19
  have q20 : 0 ≤ a20 ∧ a20 < 256 := rng8 h20
  have q21 : 0 ≤ a21 ∧ a21 < 65536 := rng16 h21
  have q22 : 0 ≤ a22 ∧ a22 < 65536 := rng16 h22
  have q23 : 0 ≤ a23 ∧ a23 < 65536 := rng16 h23
  have q24 : 0 ≤ a24 ∧ a24 < 65536 := rng16 h24
  show outsE (fnOf T59 es44) [a0, a1, a2, a3, a4, a5, a6, a7, a8, a9, a10, a11, a12, a13, a14, a15, a16, a17, a18, a19, a20, a21, a22, a23, a24, a25] 0 [.b, .i .i64] = outsE (fun j xs => match j with | 0 => b2i (winB (fun i => xs.getD i 0) (fun i => xs.getD (i + 13) 0)) | _ => winE (fun i => xs.getD i 0) (fun i => xs.getD (i + 13) 0)) [a0, a1, a2, a3, a4, a5, a6, a7, a8, a9, a10, a11, a12, a13, a14, a15, a16, a17, a18, a19, a20, a21, a22, a23, a24, a25] 0 [.b, .i .i64]
  have F26 : ∀ xs, T59.F 26 0 xs = b2i (rightS fun i => xs.getD i 0) := fun _ => rfl
  have F59 : ∀ xs, T59.F 59 0 xs = b2i (insS (fun i => xs.getD i 0) (fun i => xs.getD (i + 13) 0)) := fun _ => rfl
  refine outs_two ?_ ?_
  · show fnOf T59 es44 0 [a0, a1, a2, a3, a4, a5, a6, a7, a8, a9, a10, a11, a12, a13, a14, a15, a16, a17, a18, a19, a20, a21, a22, a23, a24, a25] = b2i (winB (fun i => [a0, a1, a2, a3, a4, a5, a6, a7, a8, a9, a10, a11, a12].getD i 0) (fun i => [a13, a14, a15, a16, a17, a18, a19, a20, a21, a22, a23, a24, a25].getD i 0))
    simp only [es44, c44x0, c44x1, fnOf, E.den, E.denL, binI, dvI, shI, cmpB, List.getD_cons_zero, List.getD_cons_succ, i2b_b2i, norm_b2i, F26, F59, h0, h1, h2, h3, h4, h5, h6, h7, h8, h9, h10, h11, h12, h13, h14, h15, h16, h17, h18, h19, h20, h21, h22, h23, h24, h25]
    unfold winB
    congr 1
    simp only [Bool.not_or, Bool.not_not]
    rfl
  · show fnOf T59 es44 1 [a0, a1, a2, a3, a4, a5, a6, a7, a8, a9, a10, a11, a12, a13, a14, a15, a16, a17, a18, a19, a20, a21, a22, a23, a24, a25] = winE (fun i => [a0, a1, a2, a3, a4, a5, a6, a7, a8, a9, a10, a11, a12].getD i 0) (fun i => [a13, a14, a15, a16, a17, a18, a19, a20, a21, a22, a23, a24, a25].getD i 0)
    simp only [es44, c44x0, c44x1, fnOf, E.den, E.denL, binI, dvI, shI, cmpB, List.getD_cons_zero, List.getD_cons_succ, i2b_b2i, norm_b2i, F26, h0, h1, h2, h3, h4, h5, h6, h7, h8, h9, h10, h11, h12, h13, h14, h15, h16, h17, h18, h19, h20, h21, h22, h23, h24, h25]
    unfold winE
    generalize rightS (fun i => [a0, a1, a2, a3, a4, a5, a6, a7, a8, a9, a10, a11, a12].getD i 0) = r
    generalize rightS (fun i => [a13, a14, a15, a16, a17, a18, a19, a20, a21, a22, a23, a24, a25].getD i 0) = s
    cases r <;> cases s <;> rfl
theorem ok44 : EntryOK Tryd.prog G0 en44 := ok44'.congr lem44
def T44 : Tabs := en44 :: T59
theorem tok44 : TabsOK Tryd.prog G0 T44 := .cons ok44 tok59

end Go.Proofs.YtbolcnlenmphhaaDoor
