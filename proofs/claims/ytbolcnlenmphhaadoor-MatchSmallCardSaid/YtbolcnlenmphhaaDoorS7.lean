/- Layer 26: summaries of the functions, seventh part: MatchPairs. Printed by a program from the evaluator's own output; the lemmas by hand. -/
import Derived.Test.YtbolcnlenmphhaaDoorS6
set_option linter.unusedVariables false
set_option linter.unusedSimpArgs false
namespace Go.Proofs.YtbolcnlenmphhaaDoor
open Go Go.RowKit Ev

theorem pk_norm {v : Nat → Int} (hv : ∀ j, 0 ≤ v j ∧ v j < 4294967296) :
    K.norm (.i .u8) (packF v 0) = packF v 0 ∧ K.norm (.i .u8) (packF v 1) = packF v 1 ∧ K.norm (.i .u32) (packF v 2) = packF v 2 ∧ K.norm (.i .u32) (packF v 3) = packF v 3 ∧ K.norm (.i .u16) (packF v 4) = packF v 4 ∧ K.norm (.i .u16) (packF v 5) = packF v 5 ∧ K.norm (.i .u8) (packF v 7) = packF v 7 := by
  refine ⟨wrap_wrap .u8 (v 0), wrap_wrap .u8 (v 1), nrm32 (hv 2), nrm32 (hv 3), wrap_wrap .u16 (v 4), wrap_wrap .u16 (v 5), ?_⟩
  show K.norm (.i .u8) (bif IntKind.wrap .u8 (v 1) == 6 then IntKind.wrap .u8 (v 6) else 0) = bif IntKind.wrap .u8 (v 1) == 6 then IntKind.wrap .u8 (v 6) else 0
  cases IntKind.wrap .u8 (v 1) == 6
  · rfl
  · exact wrap_wrap .u8 (v 6)
theorem samO_right {x : Nat → Int} (h : rightS x = true) {j : Nat} (hj : j ≠ 20) : samO x j = packF (leastF x) j := by
  unfold samO; rw [if_neg hj, h]; rfl
theorem samO_wrong {x : Nat → Int} (h : rightS x = false) {j : Nat} (hj : j ≠ 20) : samO x j = 0 := by
  unfold samO; rw [if_neg hj, h]; rfl
theorem apO_out {x y : Nat → Int} (hr : rightS x = true) (hs : rightS y = true) (h : insS x y = false) {j : Nat} (hj : j ≠ 20) : apO x y j = packF (apV x y) j := by
  unfold apO; rw [if_neg hj, hr, hs, h]; rfl
theorem apO_none {x y : Nat → Int} (h : (rightS x && rightS y) = false ∨ insS x y = true) {j : Nat} (hj : j ≠ 20) : apO x y j = 0 := by
  unfold apO
  rw [if_neg hj]
  rcases h with h | h
  · rw [h]; rfl
  · rw [h]
    cases rightS x && rightS y <;> rfl
theorem nz (k : K) : K.norm k 0 = 0 := by
  cases k with
  | b => rfl
  | i k => cases k <;> rfl

def c46x0 : List E :=
  [(.var (.i .u8) 0), (.var (.i .u8) 1), (.var (.i .u8) 2), (.var (.i .u8) 3), (.var (.i .u32) 4), (.var (.i .u8) 5), (.var (.i .u32) 6), (.var (.i .u8) 7), (.var (.i .u16) 8), (.var (.i .u16) 9), (.var (.i .u16) 10), (.var (.i .u16) 11),
    (.var .b 12), (.var (.i .u8) 13), (.var (.i .u8) 14), (.var (.i .u32) 15), (.var (.i .u32) 16), (.var (.i .u16) 17), (.var (.i .u16) 18), (.var (.i .u8) 19), (.var (.i .u8) 20), (.var (.i .u8) 21), (.var (.i .u8) 22), (.var (.i .u32) 23),
    (.var (.i .u32) 24), (.var (.i .i64) 25), (.var (.i .i64) 26), (.var (.i .u8) 27), (.var (.i .u32) 28), (.var (.i .u32) 29), (.var (.i .u16) 30), (.var (.i .u16) 31), (.var (.i .u8) 32)]
def es46 : List E :=
  [(.and (.app .b 25 0 c46x0) (.cmp .eql (.app (.i .i64) 25 1 c46x0) (.lit (.i .i64) 0)))]
def en46' : Entry := ⟨46, 46, [.a ruleK, .s (.i .u8), .a factsK], .one (.s (.b)), fnOf T20 es46⟩
theorem ok46' : EntryOK Tryd.prog G0 en46' := evE_ok (N := 200) (n := 20) (by kernel_rfl) tok20 (by kernel_rfl)
def en46 : Entry := ⟨46, 46, [.a ruleK, .s (.i .u8), .a factsK], .one (.s (.b)), fun _ xs => b2i (matF fun i => xs.getD i 0)⟩
theorem lem46 : ∀ xs, fits (allKs en46'.ps) xs → outsE en46'.fn xs 0 en46'.rs.ks = outsE en46.fn xs 0 en46.rs.ks := by
  intro xs hx
  replace hx : fits [.i .u8, .i .u8, .i .u8, .i .u8, .i .u32, .i .u8, .i .u32, .i .u8, .i .u16, .i .u16, .i .u16, .i .u16, .b, .i .u8, .i .u8, .i .u32, .i .u32, .i .u16, .i .u16, .i .u8, .i .u8, .i .u8, .i .u8, .i .u32, .i .u32, .i .i64, .i .i64, .i .u8, .i .u32, .i .u32, .i .u16, .i .u16, .i .u8] xs := hx
  obtain ⟨a0, r0, rfl, h0, y0⟩ := fits_cons hx
  obtain ⟨a1, r1, rfl, h1, y1⟩ := fits_cons y0
  obtain ⟨a2, r2, rfl, h2, y2⟩ := fits_cons y1
  obtain ⟨a3, r3, rfl, h3, y3⟩ := fits_cons y2
  obtain ⟨a4, r4, rfl, h4, y4⟩ := fits_cons y3
  obtain ⟨a5, r5, rfl, h5, y5⟩ := fits_cons y4
  obtain ⟨a6, r6, rfl, h6, y6⟩ := fits_cons y5
  obtain ⟨a7, r7, rfl, h7, y7⟩ := fits_cons y6
  obtain ⟨a8, r8, rfl, h8, y8⟩ := fits_cons y7
  obtain ⟨a9, r9, rfl, h9, y9⟩ := fits_cons y8
  obtain ⟨a10, r10, rfl, h10, y10⟩ := fits_cons y9
  obtain ⟨a11, r11, rfl, h11, y11⟩ := fits_cons y10
  obtain ⟨a12, r12, rfl, h12, y12⟩ := fits_cons y11
  obtain ⟨a13, r13, rfl, h13, y13⟩ := fits_cons y12
  obtain ⟨a14, r14, rfl, h14, y14⟩ := fits_cons y13
  obtain ⟨a15, r15, rfl, h15, y15⟩ := fits_cons y14
  obtain ⟨a16, r16, rfl, h16, y16⟩ := fits_cons y15
  obtain ⟨a17, r17, rfl, h17, y17⟩ := fits_cons y16
  obtain ⟨a18, r18, rfl, h18, y18⟩ := fits_cons y17
  obtain ⟨a19, r19, rfl, h19, y19⟩ := fits_cons y18
  obtain ⟨a20, r20, rfl, h20, y20⟩ := fits_cons y19
  obtain ⟨a21, r21, rfl, h21, y21⟩ := fits_cons y20
  obtain ⟨a22, r22, rfl, h22, y22⟩ := fits_cons y21
  obtain ⟨a23, r23, rfl, h23, y23⟩ := fits_cons y22
  obtain ⟨a24, r24, rfl, h24, y24⟩ := fits_cons y23
  obtain ⟨a25, r25, rfl, h25, y25⟩ := fits_cons y24
  obtain ⟨a26, r26, rfl, h26, y26⟩ := fits_cons y25
  obtain ⟨a27, r27, rfl, h27, y27⟩ := fits_cons y26
  obtain ⟨a28, r28, rfl, h28, y28⟩ := fits_cons y27
  obtain ⟨a29, r29, rfl, h29, y29⟩ := fits_cons y28
  obtain ⟨a30, r30, rfl, h30, y30⟩ := fits_cons y29
  obtain ⟨a31, r31, rfl, h31, y31⟩ := fits_cons y30
  obtain ⟨a32, r32, rfl, h32, y32⟩ := fits_cons y31
  obtain rfl := fits_nil y32
  clear hx y0 y1 y2 y3 y4 y5 y6 y7 y8 y9 y10 y11 y12 y13 y14 y15 y16 y17 y18 y19 y20 y21 y22 y23 y24 y25 y26 y27 y28 y29 y30 y31 y32
  refine outs_one ?_
  show fnOf T20 es46 0 [a0, a1, a2, a3, a4, a5, a6, a7, a8, a9, a10, a11, a12, a13, a14, a15, a16, a17, a18, a19, a20, a21, a22, a23, a24, a25, a26, a27, a28, a29, a30, a31, a32] = b2i (matF fun i => [a0, a1, a2, a3, a4, a5, a6, a7, a8, a9, a10, a11, a12, a13, a14, a15, a16, a17, a18, a19, a20, a21, a22, a23, a24, a25, a26, a27, a28, a29, a30, a31, a32].getD i 0)
  have F25 : ∀ xs, T20.F 25 0 xs = b2i (matF fun i => xs.getD i 0) := fun _ => rfl
  have G25 : ∀ xs, T20.F 25 1 xs = matE fun i => xs.getD i 0 := fun _ => rfl
  simp only [es46, c46x0, fnOf, E.den, E.denL, binI, dvI, shI, cmpB, List.getD_cons_zero, List.getD_cons_succ, i2b_b2i, norm_b2i, F25, G25, h0, h1, h2, h3, h4, h5, h6, h7, h8, h9, h10, h11, h12, h13, h14, h15, h16, h17, h18, h19, h20, h21, h22, h23, h24, h25, h26, h27, h28, h29, h30, h31, h32]
  have hE : ∀ x : Nat → Int, K.norm (.i .i64) (matE x) = matE x := fun x => by
    unfold matE
    cases rightS x <;> cases goodP (x 13) (x 14) <;> rfl
  rw [hE, nz, matE_of]
theorem ok46 : EntryOK Tryd.prog G0 en46 := ok46'.congr lem46
def T46 : Tabs := en46 :: T20
theorem tok46 : TabsOK Tryd.prog G0 T46 := .cons ok46 tok20

def c21x0 : List E :=
  [(.var (.i .u8) 0), (.var (.i .u8) 1), (.var (.i .u8) 2), (.var (.i .u8) 3), (.var (.i .u32) 4), (.var (.i .u8) 5), (.var (.i .u32) 6), (.var (.i .u8) 7), (.var (.i .u16) 8), (.var (.i .u16) 9), (.var (.i .u16) 10), (.var (.i .u16) 11),
    (.var .b 12), (.var (.i .u8) 13), (.var (.i .u8) 14), (.var (.i .u8) 15), (.var (.i .u8) 16), (.var (.i .u32) 17), (.var (.i .u8) 18), (.var (.i .u32) 19), (.var (.i .u8) 20), (.var (.i .u16) 21), (.var (.i .u16) 22), (.var (.i .u16) 23),
    (.var (.i .u16) 24), (.var .b 25)]
def c21x1 : List E :=
  [(.var (.i .u8) 0), (.var (.i .u8) 1), (.var (.i .u8) 2), (.var (.i .u8) 3), (.var (.i .u32) 4), (.var (.i .u8) 5), (.var (.i .u32) 6), (.var (.i .u8) 7), (.var (.i .u16) 8), (.var (.i .u16) 9), (.var (.i .u16) 10), (.var (.i .u16) 11),
    (.var .b 12)]
def es21 : List E :=
  [(.and (.not (.or (.or (.or (.not (.cmp .eql (.app .b 14 0 c21x0) (.app .b 44 0 c21x0))) (.cmp .neq (.app (.i .i64) 14 1 c21x0) (.app (.i .i64) 44 1 c21x0))) (.not (.and (.cmp .eql (.app (.i .u8) 15 0 c21x0) (.app (.i .u8) 45 0 c21x0))
    (.and (.cmp .eql (.app (.i .u8) 15 1 c21x0) (.app (.i .u8) 45 1 c21x0)) (.and (.cmp .eql (.app (.i .u8) 15 2 c21x0) (.app (.i .u8) 45 2 c21x0)) (.and (.cmp .eql (.app (.i .u8) 15 3 c21x0) (.app (.i .u8) 45 3 c21x0)) (.and (.and (.cmp .eql
    (.app (.i .u32) 15 4 c21x0) (.app (.i .u32) 45 4 c21x0)) (.cmp .eql (.app (.i .u8) 15 5 c21x0) (.app (.i .u8) 45 5 c21x0))) (.and (.and (.cmp .eql (.app (.i .u32) 15 6 c21x0) (.app (.i .u32) 45 6 c21x0)) (.cmp .eql (.app (.i .u8) 15 7
    c21x0) (.app (.i .u8) 45 7 c21x0))) (.and (.and (.cmp .eql (.app (.i .u16) 15 8 c21x0) (.app (.i .u16) 45 8 c21x0)) (.cmp .eql (.app (.i .u16) 15 9 c21x0) (.app (.i .u16) 45 9 c21x0))) (.and (.and (.cmp .eql (.app (.i .u16) 15 10 c21x0)
    (.app (.i .u16) 45 10 c21x0)) (.cmp .eql (.app (.i .u16) 15 11 c21x0) (.app (.i .u16) 45 11 c21x0))) (.cmp .eql (.app .b 15 12 c21x0) (.app .b 45 12 c21x0)))))))))))) (.cmp .neq (.app (.i .i64) 15 13 c21x0) (.app (.i .i64) 45 13 c21x0))))
    (.and (.not (.or (.and (.app .b 26 0 c21x1) (.or (.cmp .neq (.app (.i .i64) 19 20 c21x1) (.lit (.i .i64) 0)) (.not (.app .b 46 0 [(.var (.i .u8) 0), (.var (.i .u8) 1), (.var (.i .u8) 2), (.var (.i .u8) 3), (.var (.i .u32) 4), (.var (.i .u8)
    5), (.var (.i .u32) 6), (.var (.i .u8) 7), (.var (.i .u16) 8), (.var (.i .u16) 9), (.var (.i .u16) 10), (.var (.i .u16) 11), (.var .b 12), (.app (.i .u8) 19 0 c21x1), (.app (.i .u8) 19 1 c21x1), (.app (.i .u32) 19 2 c21x1), (.app (.i .u32)
    19 3 c21x1), (.app (.i .u16) 19 4 c21x1), (.app (.i .u16) 19 5 c21x1), (.app (.i .u8) 19 6 c21x1), (.app (.i .u8) 19 7 c21x1), (.app (.i .u8) 19 8 c21x1), (.app (.i .u8) 19 9 c21x1), (.app (.i .u32) 19 10 c21x1), (.app (.i .u32) 19 11
    c21x1), (.app (.i .i64) 19 12 c21x1), (.app (.i .i64) 19 13 c21x1), (.app (.i .u8) 19 14 c21x1), (.app (.i .u32) 19 15 c21x1), (.app (.i .u32) 19 16 c21x1), (.app (.i .u16) 19 17 c21x1), (.app (.i .u16) 19 18 c21x1), (.app (.i .u8) 19 19
    c21x1)])))) (.and (.not (.app .b 26 0 c21x1)) (.or (.or (.cmp .neq (.app (.i .i64) 19 20 c21x1) (.lit (.i .i64) 260)) (.cmp .neq (.app (.i .u8) 19 0 c21x1) (.lit (.i .u8) 0))) (.not (.and (.and (.cmp .eql (.app (.i .u8) 19 1 c21x1) (.lit
    (.i .u8) 0)) (.and (.cmp .eql (.app (.i .u32) 19 2 c21x1) (.lit (.i .u32) 0)) (.and (.cmp .eql (.app (.i .u32) 19 3 c21x1) (.lit (.i .u32) 0)) (.and (.cmp .eql (.app (.i .u16) 19 4 c21x1) (.lit (.i .u16) 0)) (.cmp .eql (.app (.i .u16) 19 5
    c21x1) (.lit (.i .u16) 0)))))) (.and (.cmp .eql (.app (.i .u8) 19 6 c21x1) (.lit (.i .u8) 0)) (.and (.cmp .eql (.app (.i .u8) 19 7 c21x1) (.lit (.i .u8) 0)) (.and (.cmp .eql (.app (.i .u8) 19 8 c21x1) (.lit (.i .u8) 0)) (.and (.cmp .eql
    (.app (.i .u8) 19 9 c21x1) (.lit (.i .u8) 0)) (.and (.cmp .eql (.app (.i .u32) 19 10 c21x1) (.lit (.i .u32) 0)) (.and (.cmp .eql (.app (.i .u32) 19 11 c21x1) (.lit (.i .u32) 0)) (.and (.cmp .eql (.app (.i .i64) 19 12 c21x1) (.lit (.i .i64)
    0)) (.and (.cmp .eql (.app (.i .i64) 19 13 c21x1) (.lit (.i .i64) 0)) (.and (.and (.cmp .eql (.app (.i .u8) 19 14 c21x1) (.lit (.i .u8) 0)) (.and (.cmp .eql (.app (.i .u32) 19 15 c21x1) (.lit (.i .u32) 0)) (.and (.cmp .eql (.app (.i .u32)
    19 16 c21x1) (.lit (.i .u32) 0)) (.and (.cmp .eql (.app (.i .u16) 19 17 c21x1) (.lit (.i .u16) 0)) (.cmp .eql (.app (.i .u16) 19 18 c21x1) (.lit (.i .u16) 0)))))) (.cmp .eql (.app (.i .u8) 19 19 c21x1) (.lit (.i .u8) 0)))))))))))))))))
    (.ite (.and (.cmp .eql (.app (.i .i64) 44 1 c21x0) (.lit (.i .i64) 0)) (.not (.app .b 44 0 c21x0))) (.and (.and (.cmp .eql (.app (.i .i64) 20 20 c21x0) (.lit (.i .i64) 0)) (.app .b 46 0 [(.var (.i .u8) 0), (.var (.i .u8) 1), (.var (.i .u8)
    2), (.var (.i .u8) 3), (.var (.i .u32) 4), (.var (.i .u8) 5), (.var (.i .u32) 6), (.var (.i .u8) 7), (.var (.i .u16) 8), (.var (.i .u16) 9), (.var (.i .u16) 10), (.var (.i .u16) 11), (.var .b 12), (.app (.i .u8) 20 0 c21x0), (.app (.i .u8)
    20 1 c21x0), (.app (.i .u32) 20 2 c21x0), (.app (.i .u32) 20 3 c21x0), (.app (.i .u16) 20 4 c21x0), (.app (.i .u16) 20 5 c21x0), (.app (.i .u8) 20 6 c21x0), (.app (.i .u8) 20 7 c21x0), (.app (.i .u8) 20 8 c21x0), (.app (.i .u8) 20 9 c21x0),
    (.app (.i .u32) 20 10 c21x0), (.app (.i .u32) 20 11 c21x0), (.app (.i .i64) 20 12 c21x0), (.app (.i .i64) 20 13 c21x0), (.app (.i .u8) 20 14 c21x0), (.app (.i .u32) 20 15 c21x0), (.app (.i .u32) 20 16 c21x0), (.app (.i .u16) 20 17 c21x0),
    (.app (.i .u16) 20 18 c21x0), (.app (.i .u8) 20 19 c21x0)])) (.not (.app .b 46 0 [(.var (.i .u8) 13), (.var (.i .u8) 14), (.var (.i .u8) 15), (.var (.i .u8) 16), (.var (.i .u32) 17), (.var (.i .u8) 18), (.var (.i .u32) 19), (.var (.i .u8)
    20), (.var (.i .u16) 21), (.var (.i .u16) 22), (.var (.i .u16) 23), (.var (.i .u16) 24), (.var .b 25), (.app (.i .u8) 20 0 c21x0), (.app (.i .u8) 20 1 c21x0), (.app (.i .u32) 20 2 c21x0), (.app (.i .u32) 20 3 c21x0), (.app (.i .u16) 20 4
    c21x0), (.app (.i .u16) 20 5 c21x0), (.app (.i .u8) 20 6 c21x0), (.app (.i .u8) 20 7 c21x0), (.app (.i .u8) 20 8 c21x0), (.app (.i .u8) 20 9 c21x0), (.app (.i .u32) 20 10 c21x0), (.app (.i .u32) 20 11 c21x0), (.app (.i .i64) 20 12 c21x0),
    (.app (.i .i64) 20 13 c21x0), (.app (.i .u8) 20 14 c21x0), (.app (.i .u32) 20 15 c21x0), (.app (.i .u32) 20 16 c21x0), (.app (.i .u16) 20 17 c21x0), (.app (.i .u16) 20 18 c21x0), (.app (.i .u8) 20 19 c21x0)]))) (.and (.not (.or (.cmp .neq
    (.app (.i .u8) 20 0 c21x0) (.lit (.i .u8) 0)) (.not (.and (.and (.cmp .eql (.app (.i .u8) 20 1 c21x0) (.lit (.i .u8) 0)) (.and (.cmp .eql (.app (.i .u32) 20 2 c21x0) (.lit (.i .u32) 0)) (.and (.cmp .eql (.app (.i .u32) 20 3 c21x0) (.lit (.i
    .u32) 0)) (.and (.cmp .eql (.app (.i .u16) 20 4 c21x0) (.lit (.i .u16) 0)) (.cmp .eql (.app (.i .u16) 20 5 c21x0) (.lit (.i .u16) 0)))))) (.and (.cmp .eql (.app (.i .u8) 20 6 c21x0) (.lit (.i .u8) 0)) (.and (.cmp .eql (.app (.i .u8) 20 7
    c21x0) (.lit (.i .u8) 0)) (.and (.cmp .eql (.app (.i .u8) 20 8 c21x0) (.lit (.i .u8) 0)) (.and (.cmp .eql (.app (.i .u8) 20 9 c21x0) (.lit (.i .u8) 0)) (.and (.cmp .eql (.app (.i .u32) 20 10 c21x0) (.lit (.i .u32) 0)) (.and (.cmp .eql (.app
    (.i .u32) 20 11 c21x0) (.lit (.i .u32) 0)) (.and (.cmp .eql (.app (.i .i64) 20 12 c21x0) (.lit (.i .i64) 0)) (.and (.cmp .eql (.app (.i .i64) 20 13 c21x0) (.lit (.i .i64) 0)) (.and (.and (.cmp .eql (.app (.i .u8) 20 14 c21x0) (.lit (.i .u8)
    0)) (.and (.cmp .eql (.app (.i .u32) 20 15 c21x0) (.lit (.i .u32) 0)) (.and (.cmp .eql (.app (.i .u32) 20 16 c21x0) (.lit (.i .u32) 0)) (.and (.cmp .eql (.app (.i .u16) 20 17 c21x0) (.lit (.i .u16) 0)) (.cmp .eql (.app (.i .u16) 20 18
    c21x0) (.lit (.i .u16) 0)))))) (.cmp .eql (.app (.i .u8) 20 19 c21x0) (.lit (.i .u8) 0))))))))))))))) (.or (.and (.cmp .eql (.app (.i .i64) 44 1 c21x0) (.lit (.i .i64) 0)) (.cmp .eql (.app (.i .i64) 20 20 c21x0) (.lit (.i .i64) 6))) (.and
    (.cmp .neq (.app (.i .i64) 44 1 c21x0) (.lit (.i .i64) 0)) (.cmp .eql (.app (.i .i64) 20 20 c21x0) (.app (.i .i64) 44 1 c21x0))))))))]
def en21' : Entry := ⟨21, 21, [.a ruleK, .a ruleK], .one (.s (.b)), fnOf T46 es21⟩
theorem ok21' : EntryOK Tryd.prog G0 en21' := evE_ok (N := 200) (n := 20) (by kernel_rfl) tok46 (by kernel_rfl)
def en21 : Entry := ⟨21, 21, [.a ruleK, .a ruleK], .one (.s (.b)), fun _ _ => 1⟩
theorem lem21 : ∀ xs, fits (allKs en21'.ps) xs → outsE en21'.fn xs 0 en21'.rs.ks = outsE en21.fn xs 0 en21.rs.ks := by
  intro xs hx
  replace hx : fits [.i .u8, .i .u8, .i .u8, .i .u8, .i .u32, .i .u8, .i .u32, .i .u8, .i .u16, .i .u16, .i .u16, .i .u16, .b, .i .u8, .i .u8, .i .u8, .i .u8, .i .u32, .i .u8, .i .u32, .i .u8, .i .u16, .i .u16, .i .u16, .i .u16, .b] xs := hx
  obtain ⟨a0, r0, rfl, h0, y0⟩ := fits_cons hx
  obtain ⟨a1, r1, rfl, h1, y1⟩ := fits_cons y0
  obtain ⟨a2, r2, rfl, h2, y2⟩ := fits_cons y1
  obtain ⟨a3, r3, rfl, h3, y3⟩ := fits_cons y2
  obtain ⟨a4, r4, rfl, h4, y4⟩ := fits_cons y3
  obtain ⟨a5, r5, rfl, h5, y5⟩ := fits_cons y4
  obtain ⟨a6, r6, rfl, h6, y6⟩ := fits_cons y5
  obtain ⟨a7, r7, rfl, h7, y7⟩ := fits_cons y6
  obtain ⟨a8, r8, rfl, h8, y8⟩ := fits_cons y7
  obtain ⟨a9, r9, rfl, h9, y9⟩ := fits_cons y8
  obtain ⟨a10, r10, rfl, h10, y10⟩ := fits_cons y9
  obtain ⟨a11, r11, rfl, h11, y11⟩ := fits_cons y10
  obtain ⟨a12, r12, rfl, h12, y12⟩ := fits_cons y11
  obtain ⟨a13, r13, rfl, h13, y13⟩ := fits_cons y12
  obtain ⟨a14, r14, rfl, h14, y14⟩ := fits_cons y13
  obtain ⟨a15, r15, rfl, h15, y15⟩ := fits_cons y14
  obtain ⟨a16, r16, rfl, h16, y16⟩ := fits_cons y15
  obtain ⟨a17, r17, rfl, h17, y17⟩ := fits_cons y16
  obtain ⟨a18, r18, rfl, h18, y18⟩ := fits_cons y17
  obtain ⟨a19, r19, rfl, h19, y19⟩ := fits_cons y18
  obtain ⟨a20, r20, rfl, h20, y20⟩ := fits_cons y19
  obtain ⟨a21, r21, rfl, h21, y21⟩ := fits_cons y20
  obtain ⟨a22, r22, rfl, h22, y22⟩ := fits_cons y21
  obtain ⟨a23, r23, rfl, h23, y23⟩ := fits_cons y22
  obtain ⟨a24, r24, rfl, h24, y24⟩ := fits_cons y23
  obtain ⟨a25, r25, rfl, h25, y25⟩ := fits_cons y24
  obtain rfl := fits_nil y25
  clear hx y0 y1 y2 y3 y4 y5 y6 y7 y8 y9 y10 y11 y12 y13 y14 y15 y16 y17 y18 y19 y20 y21 y22 y23 y24 y25
  have q0 : 0 ≤ a0 ∧ a0 < 256 := rng8 h0
  have q1 : 0 ≤ a1 ∧ a1 < 256 := rng8 h1
  have q2 : 0 ≤ a2 ∧ a2 < 256 := rng8 h2
  have q3 : 0 ≤ a3 ∧ a3 < 256 := rng8 h3
  have q4 : 0 ≤ a4 ∧ a4 < 4294967296 := rng32 h4
  have q5 : 0 ≤ a5 ∧ a5 < 256 := rng8 h5
  have q6 : 0 ≤ a6 ∧ a6 < 4294967296 := rng32 h6
  have q7 : 0 ≤ a7 ∧ a7 < 256 := rng8 h7
  have q8 : 0 ≤ a8 ∧ a8 < 65536 := rng16 h8
  have q9 : 0 ≤ a9 ∧ a9 < 65536 := rng16 h9
  have q10 : 0 ≤ a10 ∧ a10 < 65536 := rng16 h10
  have q11 : 0 ≤ a11 ∧ a11 < 65536 := rng16 h11
  have q13 : 0 ≤ a13 ∧ a13 < 256 := rng8 h13
  have q14 : 0 ≤ a14 ∧ a14 < 256 := rng8 h14
  have q15 : 0 ≤ a15 ∧ a15 < 256 := rng8 h15
  have q16 : 0 ≤ a16 ∧ a16 < 256 := rng8 h16
  have q17 : 0 ≤ a17 ∧ a17 < 4294967296 := rng32 h17
  have q18 : 0 ≤ a18 ∧ a18 < 256 := rng8 h18
  have q19 : 0 ≤ a19 ∧ a19 < 4294967296 := rng32 h19
  have q20 : 0 ≤ a20 ∧ a20 < 256 := rng8 h20
  have q21 : 0 ≤ a21 ∧ a21 < 65536 := rng16 h21
  have q22 : 0 ≤ a22 ∧ a22 < 65536 := rng16 h22
  have q23 : 0 ≤ a23 ∧ a23 < 65536 := rng16 h23
  have q24 : 0 ≤ a24 ∧ a24 < 65536 := rng16 h24
  obtain ⟨A, eA⟩ : ∃ A : Nat → Int, A = fun i => [a0, a1, a2, a3, a4, a5, a6, a7, a8, a9, a10, a11, a12].getD i 0 := ⟨_, rfl⟩
  have hA : RuleIn A := by rw [eA]; exact rule1 q0 q1 q2 q3 q4 q5 q6 q7 q8 q9 q10 q11
  obtain ⟨B, eB⟩ : ∃ B : Nat → Int, B = fun i => [a13, a14, a15, a16, a17, a18, a19, a20, a21, a22, a23, a24, a25].getD i 0 := ⟨_, rfl⟩
  have hB : RuleIn B := by rw [eB]; exact rule1 q13 q14 q15 q16 q17 q18 q19 q20 q21 q22 q23 q24
  refine outs_one ?_
  show fnOf T46 es21 0 [a0, a1, a2, a3, a4, a5, a6, a7, a8, a9, a10, a11, a12, a13, a14, a15, a16, a17, a18, a19, a20, a21, a22, a23, a24, a25] = 1
  have F14 : T46.F 14 0 [a0, a1, a2, a3, a4, a5, a6, a7, a8, a9, a10, a11, a12, a13, a14, a15, a16, a17, a18, a19, a20, a21, a22, a23, a24, a25] = b2i (winB A B) := by rw [eA, eB]; rfl
  have G14 : T46.F 14 1 [a0, a1, a2, a3, a4, a5, a6, a7, a8, a9, a10, a11, a12, a13, a14, a15, a16, a17, a18, a19, a20, a21, a22, a23, a24, a25] = winE A B := by rw [eA, eB]; rfl
  have F44 : T46.F 44 0 [a0, a1, a2, a3, a4, a5, a6, a7, a8, a9, a10, a11, a12, a13, a14, a15, a16, a17, a18, a19, a20, a21, a22, a23, a24, a25] = b2i (winB A B) := by rw [eA, eB]; rfl
  have G44 : T46.F 44 1 [a0, a1, a2, a3, a4, a5, a6, a7, a8, a9, a10, a11, a12, a13, a14, a15, a16, a17, a18, a19, a20, a21, a22, a23, a24, a25] = winE A B := by rw [eA, eB]; rfl
  have F15 : ∀ j, T46.F 15 j [a0, a1, a2, a3, a4, a5, a6, a7, a8, a9, a10, a11, a12, a13, a14, a15, a16, a17, a18, a19, a20, a21, a22, a23, a24, a25] = comO A B j := fun j => by rw [eA, eB]; rfl
  have F45 : ∀ j, T46.F 45 j [a0, a1, a2, a3, a4, a5, a6, a7, a8, a9, a10, a11, a12, a13, a14, a15, a16, a17, a18, a19, a20, a21, a22, a23, a24, a25] = comO A B j := fun j => by rw [eA, eB]; rfl
  have F26 : T46.F 26 0 [a0, a1, a2, a3, a4, a5, a6, a7, a8, a9, a10, a11, a12] = b2i (rightS A) := by rw [eA]; rfl
  have F19 : ∀ j, T46.F 19 j [a0, a1, a2, a3, a4, a5, a6, a7, a8, a9, a10, a11, a12] = samO A j := fun j => by rw [eA]; rfl
  have F20 : ∀ j, T46.F 20 j [a0, a1, a2, a3, a4, a5, a6, a7, a8, a9, a10, a11, a12, a13, a14, a15, a16, a17, a18, a19, a20, a21, a22, a23, a24, a25] = apO A B j := fun j => by rw [eA, eB]; rfl
  have F46 : ∀ p0 p1 p2 p3 p4 p5 p6 p7 p8 p9 p10 p11 p12 p13 p14 p15 p16 p17 p18 p19 : Int, T46.F 46 0 [a0, a1, a2, a3, a4, a5, a6, a7, a8, a9, a10, a11, a12, p0, p1, p2, p3, p4, p5, p6, p7, p8, p9, p10, p11, p12, p13, p14, p15, p16, p17, p18, p19] = b2i (rightS A && (goodP p0 p1 && meetsS A p0 p1 p2 p3 p4 p5 p7)) := fun p0 p1 p2 p3 p4 p5 p6 p7 p8 p9 p10 p11 p12 p13 p14 p15 p16 p17 p18 p19 => by rw [eA]; rfl
  have G46 : ∀ p0 p1 p2 p3 p4 p5 p6 p7 p8 p9 p10 p11 p12 p13 p14 p15 p16 p17 p18 p19 : Int, T46.F 46 0 [a13, a14, a15, a16, a17, a18, a19, a20, a21, a22, a23, a24, a25, p0, p1, p2, p3, p4, p5, p6, p7, p8, p9, p10, p11, p12, p13, p14, p15, p16, p17, p18, p19] = b2i (rightS B && (goodP p0 p1 && meetsS B p0 p1 p2 p3 p4 p5 p7)) := fun p0 p1 p2 p3 p4 p5 p6 p7 p8 p9 p10 p11 p12 p13 p14 p15 p16 p17 p18 p19 => by rw [eB]; rfl
  simp only [es21, c21x0, c21x1, fnOf, E.den, E.denL, binI, dvI, shI, cmpB, List.getD_cons_zero, List.getD_cons_succ, i2b_b2i, norm_b2i, F14, G14, F44, G44, F15, F45, F26, F19, F20, F46, G46, h0, h1, h2, h3, h4, h5, h6, h7, h8, h9, h10, h11, h12, h13, h14, h15, h16, h17, h18, h19, h20, h21, h22, h23, h24, h25]
  clear F14 G14 F44 G44 F15 F45 F26 F19 F20 F46 G46
  simp only [beq_self_eq_true, bne_self_eq_false, Bool.not_true, Bool.not_false, Bool.or_self, Bool.or_false, Bool.false_or, Bool.and_self, Bool.true_and, Bool.and_true, nz]
  obtain ⟨s0, s1, s2, s3, s4, s5, s7⟩ := pk_norm (leastF_in hA)
  obtain ⟨t0, t1, t2, t3, t4, t5, t7⟩ := pk_norm (fun j => apV_in (y := B) hA j)
  have n20 : ∀ j, j ≠ 20 → j ≠ 20 := fun _ h => h
  cases hr : rightS A
  · have z := fun j (hj : j ≠ 20) => samO_wrong hr hj
    have y := fun j (hj : j ≠ 20) => apO_none (x := A) (y := B) (.inl (by rw [hr]; rfl)) hj
    have z20 : samO A 20 = 260 := by unfold samO; rw [hr]; rfl
    have y20 : apO A B 20 = 260 := by unfold apO; rw [hr]; rfl
    have w : winE A B = 260 := by unfold winE; rw [hr]; rfl
    have v : winB A B = false := by unfold winB; rw [hr]; rfl
    simp only [z 0 (by decide), z 1 (by decide), z 2 (by decide), z 3 (by decide), z 4 (by decide), z 5 (by decide), z 6 (by decide), z 7 (by decide), z 8 (by decide), z 9 (by decide), z 10 (by decide), z 11 (by decide), z 12 (by decide), z 13 (by decide), z 14 (by decide), z 15 (by decide), z 16 (by decide), z 17 (by decide), z 18 (by decide), z 19 (by decide),
      y 0 (by decide), y 1 (by decide), y 2 (by decide), y 3 (by decide), y 4 (by decide), y 5 (by decide), y 6 (by decide), y 7 (by decide), y 8 (by decide), y 9 (by decide), y 10 (by decide), y 11 (by decide), y 12 (by decide), y 13 (by decide), y 14 (by decide), y 15 (by decide), y 16 (by decide), y 17 (by decide), y 18 (by decide), y 19 (by decide), z20, y20, w, v, nz]
    rfl
  · have rA := (rightS_iff _).1 hr
    have z := fun j (hj : j ≠ 20) => samO_right hr hj
    have z20 : samO A 20 = 0 := by unfold samO; rw [hr]; rfl
    have gl : goodP (packF (leastF A) 0) (packF (leastF A) 1) = true := (least_vals hA rA).good
    have ml : meetsS A (packF (leastF A) 0) (packF (leastF A) 1) (packF (leastF A) 2) (packF (leastF A) 3) (packF (leastF A) 4) (packF (leastF A) 5) (packF (leastF A) 7) = true := sample_meets hA rA
    simp only [z 0 (by decide), z 1 (by decide), z 2 (by decide), z 3 (by decide), z 4 (by decide), z 5 (by decide), z 7 (by decide), z20, s0, s1, s2, s3, s4, s5, s7, gl, ml, nz]
    simp only [beq_self_eq_true, bne_self_eq_false, Bool.not_true, Bool.not_false, Bool.or_self, Bool.or_false, Bool.false_or, Bool.and_self, Bool.true_and, Bool.and_true, Bool.false_and, Bool.and_false]
    by_cases ho : rightS B = true ∧ insS A B = false
    · obtain ⟨hs, hi⟩ := ho
      have rB := (rightS_iff _).1 hs
      obtain ⟨va, ma, mb⟩ := apart_meets hA hB rA rB hi
      have y := fun j (hj : j ≠ 20) => apO_out hr hs hi hj
      have y20 : apO A B 20 = 0 := by unfold apO; rw [hr, hs, hi]; rfl
      have ga : goodP (packF (apV A B) 0) (packF (apV A B) 1) = true := va.good
      have ma' : meetsS A (packF (apV A B) 0) (packF (apV A B) 1) (packF (apV A B) 2) (packF (apV A B) 3) (packF (apV A B) 4) (packF (apV A B) 5) (packF (apV A B) 7) = true := ma
      have mb' : meetsS B (packF (apV A B) 0) (packF (apV A B) 1) (packF (apV A B) 2) (packF (apV A B) 3) (packF (apV A B) 4) (packF (apV A B) 5) (packF (apV A B) 7) = false := mb
      have w : winE A B = 0 := by unfold winE; rw [hr, hs]; rfl
      have v : winB A B = false := by unfold winB; rw [hr, hs, hi]; rfl
      simp only [y 0 (by decide), y 1 (by decide), y 2 (by decide), y 3 (by decide), y 4 (by decide), y 5 (by decide), y 7 (by decide), y20, t0, t1, t2, t3, t4, t5, t7, ga, ma', mb', w, v, nz, hs]
      rfl
    · have y := fun j (hj : j ≠ 20) => apO_none (x := A) (y := B) (by
        rw [hr, Bool.true_and]
        cases hs : rightS B
        · exact .inl rfl
        · cases hi : insS A B
          · exact absurd ⟨hs, hi⟩ ho
          · exact .inr rfl) hj
      simp only [y 0 (by decide), y 1 (by decide), y 2 (by decide), y 3 (by decide), y 4 (by decide), y 5 (by decide), y 6 (by decide), y 7 (by decide), y 8 (by decide), y 9 (by decide), y 10 (by decide), y 11 (by decide), y 12 (by decide), y 13 (by decide), y 14 (by decide), y 15 (by decide), y 16 (by decide), y 17 (by decide), y 18 (by decide), y 19 (by decide), nz]
      cases hs : rightS B
      · have w : winE A B = 260 := by unfold winE; rw [hr, hs]; rfl
        have v : winB A B = false := by unfold winB; rw [hr, hs]; rfl
        have y20 : apO A B 20 = 260 := by unfold apO; rw [hr, hs]; rfl
        rw [w, v, y20]
        rfl
      · cases hi : insS A B
        · exact absurd ⟨hs, hi⟩ ho
        · have w : winE A B = 0 := by unfold winE; rw [hr, hs]; rfl
          have v : winB A B = true := by unfold winB; rw [hr, hs, hi]; rfl
          have y20 : apO A B 20 = 6 := by unfold apO; rw [hr, hs, hi]; rfl
          rw [w, v, y20]
          rfl
theorem ok21 : EntryOK Tryd.prog G0 en21 := ok21'.congr lem21
def T21 : Tabs := en21 :: T46
theorem tok21 : TabsOK Tryd.prog G0 T21 := .cons ok21 tok46

def es8 : List E :=
  [(.app .b 21 0 [(.var (.i .u8) 0), (.var (.i .u8) 1), (.var (.i .u8) 2), (.var (.i .u8) 3), (.var (.i .u32) 4), (.var (.i .u8) 5), (.var (.i .u32) 6), (.var (.i .u8) 7), (.var (.i .u16) 8), (.var (.i .u16) 9), (.var (.i .u16) 10), (.var (.i
    .u16) 11), (.var .b 12), (.var (.i .u8) 13), (.var (.i .u8) 14), (.var (.i .u8) 15), (.var (.i .u8) 16), (.var (.i .u32) 17), (.var (.i .u8) 18), (.var (.i .u32) 19), (.var (.i .u8) 20), (.var (.i .u16) 21), (.var (.i .u16) 22), (.var (.i
    .u16) 23), (.var (.i .u16) 24), (.var .b 25)])]
def en8' : Entry := ⟨8, 8, [.a ruleK, .a ruleK], .one (.s (.b)), fnOf T21 es8⟩
theorem ok8' : EntryOK Tryd.prog G0 en8' := evE_ok (N := 200) (n := 20) (by kernel_rfl) tok21 (by kernel_rfl)
def en8 : Entry := ⟨8, 8, [.a ruleK, .a ruleK], .one (.s (.b)), fun _ _ => 1⟩
theorem lem8 : ∀ xs, fits (allKs en8'.ps) xs → outsE en8'.fn xs 0 en8'.rs.ks = outsE en8.fn xs 0 en8.rs.ks := by
  intro xs hx
  replace hx : fits [.i .u8, .i .u8, .i .u8, .i .u8, .i .u32, .i .u8, .i .u32, .i .u8, .i .u16, .i .u16, .i .u16, .i .u16, .b, .i .u8, .i .u8, .i .u8, .i .u8, .i .u32, .i .u8, .i .u32, .i .u8, .i .u16, .i .u16, .i .u16, .i .u16, .b] xs := hx
  obtain ⟨a0, r0, rfl, h0, y0⟩ := fits_cons hx
  obtain ⟨a1, r1, rfl, h1, y1⟩ := fits_cons y0
  obtain ⟨a2, r2, rfl, h2, y2⟩ := fits_cons y1
  obtain ⟨a3, r3, rfl, h3, y3⟩ := fits_cons y2
  obtain ⟨a4, r4, rfl, h4, y4⟩ := fits_cons y3
  obtain ⟨a5, r5, rfl, h5, y5⟩ := fits_cons y4
  obtain ⟨a6, r6, rfl, h6, y6⟩ := fits_cons y5
  obtain ⟨a7, r7, rfl, h7, y7⟩ := fits_cons y6
  obtain ⟨a8, r8, rfl, h8, y8⟩ := fits_cons y7
  obtain ⟨a9, r9, rfl, h9, y9⟩ := fits_cons y8
  obtain ⟨a10, r10, rfl, h10, y10⟩ := fits_cons y9
  obtain ⟨a11, r11, rfl, h11, y11⟩ := fits_cons y10
  obtain ⟨a12, r12, rfl, h12, y12⟩ := fits_cons y11
  obtain ⟨a13, r13, rfl, h13, y13⟩ := fits_cons y12
  obtain ⟨a14, r14, rfl, h14, y14⟩ := fits_cons y13
  obtain ⟨a15, r15, rfl, h15, y15⟩ := fits_cons y14
  obtain ⟨a16, r16, rfl, h16, y16⟩ := fits_cons y15
  obtain ⟨a17, r17, rfl, h17, y17⟩ := fits_cons y16
  obtain ⟨a18, r18, rfl, h18, y18⟩ := fits_cons y17
  obtain ⟨a19, r19, rfl, h19, y19⟩ := fits_cons y18
  obtain ⟨a20, r20, rfl, h20, y20⟩ := fits_cons y19
  obtain ⟨a21, r21, rfl, h21, y21⟩ := fits_cons y20
  obtain ⟨a22, r22, rfl, h22, y22⟩ := fits_cons y21
  obtain ⟨a23, r23, rfl, h23, y23⟩ := fits_cons y22
  obtain ⟨a24, r24, rfl, h24, y24⟩ := fits_cons y23
  obtain ⟨a25, r25, rfl, h25, y25⟩ := fits_cons y24
  obtain rfl := fits_nil y25
  clear hx y0 y1 y2 y3 y4 y5 y6 y7 y8 y9 y10 y11 y12 y13 y14 y15 y16 y17 y18 y19 y20 y21 y22 y23 y24 y25
  refine outs_one ?_
  show fnOf T21 es8 0 [a0, a1, a2, a3, a4, a5, a6, a7, a8, a9, a10, a11, a12, a13, a14, a15, a16, a17, a18, a19, a20, a21, a22, a23, a24, a25] = 1
  have F21 : ∀ xs, T21.F 21 0 xs = 1 := fun _ => rfl
  simp only [es8, fnOf, E.den, E.denL, binI, dvI, shI, cmpB, List.getD_cons_zero, List.getD_cons_succ, i2b_b2i, norm_b2i, F21]
  rfl
theorem ok8 : EntryOK Tryd.prog G0 en8 := ok8'.congr lem8
def T8 : Tabs := en8 :: T21
theorem tok8 : TabsOK Tryd.prog G0 T8 := .cons ok8 tok21

end Go.Proofs.YtbolcnlenmphhaaDoor
