/- Layer 26: MatchOne. Printed by a program from the evaluator's own output; the lemmas by hand. -/
import Derived.Test.YtbolcnlenmphhaaDoorSb
import Derived.Test.YtbolcnlenmphhaaDoorFq
set_option linter.unusedVariables false
set_option linter.unusedSimpArgs false
namespace Go.Proofs.YtbolcnlenmphhaaDoor
open Go Go.RowKit Ev


theorem pkt_pk {a0 a1 a2 a3 a4 a5 a6 a7 a8 a9 a10 a11 a12 : Int} (h : fits smallK [a0, a1, a2, a3, a4, a5, a6, a7, a8, a9, a10, a11, a12]) : Pk (fun j => fnOf T13 es16 j [a0, a1, a2, a3, a4, a5, a6, a7, a8, a9, a10, a11, a12]) := by
  replace h : fits [.i .u8, .i .u8, .i .u8, .i .u8, .i .u8, .i .u8, .i .u8, .i .u8, .i .u8, .i .u8, .i .u8, .i .u8, .b] [a0, a1, a2, a3, a4, a5, a6, a7, a8, a9, a10, a11, a12] := h
  obtain ⟨h0, h1, h2, h3, h4, h5, h6, h7, h8, h9, h10, h11, h12, _⟩ := h
  have u0 := tm8 (rng8 h0) (n := 2) (by omega) (by omega)
  have u2 := tm8 (rng8 h2) (n := 64) (by omega) (by omega)
  have u8 := tm8 (rng8 h8) (n := 12) (by omega) (by omega)
  have u9 := tm8 (rng8 h9) (n := 12) (by omega) (by omega)
  obtain ⟨P, eP⟩ : ∃ P : Nat → Int, P = fun j => fnOf T13 es16 j [a0, a1, a2, a3, a4, a5, a6, a7, a8, a9, a10, a11, a12] := ⟨_, rfl⟩
  have e0 : P 0 = a0.tmod 2 := by rw [eP]; simp only [es16, fnOf, E.den, E.denL, binI, dvI, shI, cmpB, List.getD_cons_zero, List.getD_cons_succ, i2b_b2i, norm_b2i, h0, h1, h2, h3, h4, h5, h6, h7, h8, h9, h10, h11, h12]
  have e1 : P 1 = 1 ∨ P 1 = 6 ∨ P 1 = 17 := by
    rw [eP]
    simp only [es16, c16x0, c16x1, c16x2, fnOf, E.den, E.denL, binI, dvI, shI, cmpB, List.getD_cons_zero, List.getD_cons_succ, i2b_b2i, norm_b2i, h0, h1, h2, h3, h4, h5, h6, h7, h8, h9, h10, h11, h12]
    cases a1.tmod 3 == K.norm (.i .i64) 0
    · cases a1.tmod 3 == K.norm (.i .i64) 1
      · exact .inr (.inr rfl)
      · exact .inr (.inl rfl)
    · exact .inl rfl
  have e2 : 0 ≤ P 2 ∧ P 2 < 4294967296 := by
    have hb := bits32_in .or (K.norm (.i .u32) 167772160) (IntKind.wrap .u32 (a4.tmod 64))
    rw [eP]
    simp only [es16, fnOf, E.den, E.denL, binI, dvI, shI, cmpB, List.getD_cons_zero, List.getD_cons_succ, i2b_b2i, norm_b2i, h0, h1, h2, h3, h4, h5, h6, h7, h8, h9, h10, h11, h12]
    exact hb
  have e3 : 0 ≤ P 3 ∧ P 3 < 4294967296 := by
    have hb := bits32_in .or (K.norm (.i .u32) 167772160) (IntKind.wrap .u32 (a6.tmod 64))
    rw [eP]
    simp only [es16, fnOf, E.den, E.denL, binI, dvI, shI, cmpB, List.getD_cons_zero, List.getD_cons_succ, i2b_b2i, norm_b2i, h0, h1, h2, h3, h4, h5, h6, h7, h8, h9, h10, h11, h12]
    exact hb
  have e4 : P 4 = IntKind.wrap .u16 (a8.tmod 12) := by rw [eP]; simp only [es16, fnOf, E.den, E.denL, binI, dvI, shI, cmpB, List.getD_cons_zero, List.getD_cons_succ, i2b_b2i, norm_b2i, h0, h1, h2, h3, h4, h5, h6, h7, h8, h9, h10, h11, h12]
  have e5 : P 5 = IntKind.wrap .u16 (a9.tmod 12) := by rw [eP]; simp only [es16, fnOf, E.den, E.denL, binI, dvI, shI, cmpB, List.getD_cons_zero, List.getD_cons_succ, i2b_b2i, norm_b2i, h0, h1, h2, h3, h4, h5, h6, h7, h8, h9, h10, h11, h12]
  have e7 : P 7 = bif P 1 == 6 then a2.tmod 64 else 0 := by
    rw [eP]
    show (bif i2b (b2i (E.den T13.F _ _ == K.norm (.i .u8) 6)) then (K.norm (.i .u8) a2).tmod 64 else K.norm (.i .u8) 0) = _
    rw [i2b_b2i, h2]
    rfl
  rw [← eP]
  refine ⟨by omega, e1, e2, e3, by rw [e4, wrap16]; omega, by rw [e5, wrap16]; omega, ?_, ?_⟩
  · rw [e7]; cases P 1 == 6 <;> simp only [cond_true, cond_false] <;> omega
  · intro h6
    rw [e7, beq_eq_false_iff_ne.2 h6]
    rfl
structure PNrm (p : Nat → Int) : Prop where
  n0 : K.norm (.i .u8) (p 0) = p 0
  n1 : K.norm (.i .u8) (p 1) = p 1
  n2 : K.norm (.i .u32) (p 2) = p 2
  n3 : K.norm (.i .u32) (p 3) = p 3
  n4 : K.norm (.i .u16) (p 4) = p 4
  n5 : K.norm (.i .u16) (p 5) = p 5
  n7 : K.norm (.i .u8) (p 7) = p 7
theorem Pk.nrm {p : Nat → Int} (h : Pk p) : PNrm p := by
  have h0 := h.b0
  have h1 := h.b1
  have h7 := h.b7
  exact ⟨n8 (by omega), n8 (by omega), nrm32 h.b2, nrm32 h.b3, n16 h.b4, n16 h.b5, n8 (by omega)⟩

def c5x0 : List E :=
  [(.var (.i .u8) 0), (.var (.i .u8) 1), (.var (.i .u8) 2), (.var (.i .u8) 3), (.var (.i .u8) 4), (.var (.i .u8) 5), (.var (.i .u8) 6), (.var (.i .u8) 7), (.var (.i .u8) 8), (.var (.i .u8) 9), (.var (.i .u8) 10), (.var (.i .u8) 11), (.var .b
    12)]
def c5x1 : E :=
  (.ite (.cmp .eql (.app (.i .u8) 16 1 c5x0) (.lit (.i .u8) 6)) (.app (.i .u8) 16 7 c5x0) (.lit (.i .u8) 0))
def c5x2 : E :=
  (.ite (.cmp .neq (.app (.i .u8) 16 1 c5x0) (.lit (.i .u8) 1)) (.app (.i .u16) 16 4 c5x0) (.lit (.i .u16) 0))
def c5x3 : E :=
  (.ite (.cmp .neq (.app (.i .u8) 16 1 c5x0) (.lit (.i .u8) 1)) (.app (.i .u16) 16 4 c5x0) (.lit (.i .u16) 65535))
def c5x4 : E :=
  (.ite (.cmp .neq (.app (.i .u8) 16 1 c5x0) (.lit (.i .u8) 1)) (.app (.i .u16) 16 5 c5x0) (.lit (.i .u16) 0))
def c5x5 : E :=
  (.ite (.cmp .neq (.app (.i .u8) 16 1 c5x0) (.lit (.i .u8) 1)) (.app (.i .u16) 16 5 c5x0) (.lit (.i .u16) 65535))
def c5x6 : E :=
  (.ite (.cmp .eql (.app (.i .u8) 16 1 c5x0) (.lit (.i .u8) 1)) (.lit (.i .u16) 0) (.app (.i .u16) 16 4 c5x0))
def c5x7 : E :=
  (.ite (.cmp .eql (.app (.i .u8) 16 1 c5x0) (.lit (.i .u8) 1)) (.lit (.i .u16) 0) (.app (.i .u16) 16 5 c5x0))
def c5x8 : List E :=
  [(.var (.i .u8) 13), (.var (.i .u8) 14), (.var (.i .u8) 15), (.var (.i .u8) 16), (.var (.i .u8) 17), (.var (.i .u8) 18), (.var (.i .u8) 19), (.var (.i .u8) 20), (.var (.i .u8) 21), (.var (.i .u8) 22), (.var (.i .u8) 23), (.var (.i .u8) 24),
    (.var .b 25)]
def c5x9 : E :=
  (.ite (.cmp .eql (.app (.i .u8) 16 1 c5x8) (.lit (.i .u8) 1)) (.lit (.i .u16) 0) (.app (.i .u16) 16 4 c5x8))
def c5x10 : E :=
  (.ite (.cmp .eql (.app (.i .u8) 16 1 c5x8) (.lit (.i .u8) 1)) (.lit (.i .u16) 0) (.app (.i .u16) 16 5 c5x8))
def c5x11 : List E :=
  [(.var (.i .u8) 26), (.var (.i .u8) 27), (.var (.i .u8) 28), (.var (.i .u8) 29), (.var (.i .u8) 30), (.var (.i .u8) 31), (.var (.i .u8) 32), (.var (.i .u8) 33), (.var (.i .u8) 34), (.var (.i .u8) 35), (.var (.i .u8) 36), (.var (.i .u8) 37),
    (.var .b 38)]
def c5x12 : List E :=
  [(.app (.i .u8) 16 0 c5x0), (.app (.i .u8) 16 1 c5x0), (.ite (.cmp .eql (.app (.i .u8) 16 1 c5x0) (.lit (.i .u8) 6)) (.lit (.i .u8) 63) (.lit (.i .u8) 0)), c5x1, (.app (.i .u32) 16 2 c5x0), (.lit (.i .u8) 32), (.app (.i .u32) 16 3 c5x0),
    (.lit (.i .u8) 32), c5x2, c5x3, c5x4, c5x5, (.lit .b 0), (.app (.i .u8) 13 0 c5x11), (.app (.i .u8) 13 1 c5x11), (.app (.i .u8) 13 2 c5x11), (.app (.i .u8) 13 3 c5x11), (.app (.i .u32) 13 4 c5x11), (.app (.i .u8) 13 5 c5x11), (.app (.i
    .u32) 13 6 c5x11), (.app (.i .u8) 13 7 c5x11), (.app (.i .u16) 13 8 c5x11), (.app (.i .u16) 13 9 c5x11), (.app (.i .u16) 13 10 c5x11), (.app (.i .u16) 13 11 c5x11), (.app .b 13 12 c5x11)]
def es5 : List E :=
  [(.and (.not (.or (.or (.not (.app .b 17 0 [(.app (.i .u8) 16 0 c5x0), (.app (.i .u8) 16 1 c5x0), (.ite (.cmp .eql (.app (.i .u8) 16 1 c5x0) (.lit (.i .u8) 6)) (.lit (.i .u8) 63) (.lit (.i .u8) 0)), c5x1, (.app (.i .u32) 16 2 c5x0), (.lit
    (.i .u8) 32), (.app (.i .u32) 16 3 c5x0), (.lit (.i .u8) 32), c5x2, c5x3, c5x4, c5x5, (.lit .b 0)])) (.not (.app .b 18 0 [(.app (.i .u8) 16 0 c5x0), (.app (.i .u8) 16 1 c5x0), (.ite (.cmp .eql (.app (.i .u8) 16 1 c5x0) (.lit (.i .u8) 6))
    (.lit (.i .u8) 63) (.lit (.i .u8) 0)), c5x1, (.app (.i .u32) 16 2 c5x0), (.lit (.i .u8) 32), (.app (.i .u32) 16 3 c5x0), (.lit (.i .u8) 32), c5x2, c5x3, c5x4, c5x5, (.lit .b 0), (.app (.i .u8) 16 0 c5x0), (.app (.i .u8) 16 1 c5x0), (.app
    (.i .u32) 16 2 c5x0), (.app (.i .u32) 16 3 c5x0), c5x6, c5x7, (.app (.i .u8) 16 6 c5x0), (.app (.i .u8) 16 7 c5x0), (.app (.i .u8) 16 8 c5x0), (.app (.i .u8) 16 9 c5x0), (.app (.i .u32) 16 10 c5x0), (.app (.i .u32) 16 11 c5x0), (.app (.i
    .i64) 16 12 c5x0), (.app (.i .i64) 16 13 c5x0), (.app (.i .u8) 16 14 c5x0), (.app (.i .u32) 16 15 c5x0), (.app (.i .u32) 16 16 c5x0), (.app (.i .u16) 16 17 c5x0), (.app (.i .u16) 16 18 c5x0), (.app (.i .u8) 16 19 c5x0)]))) (.not (.cmp .eql
    (.app .b 18 0 [(.app (.i .u8) 16 0 c5x0), (.app (.i .u8) 16 1 c5x0), (.ite (.cmp .eql (.app (.i .u8) 16 1 c5x0) (.lit (.i .u8) 6)) (.lit (.i .u8) 63) (.lit (.i .u8) 0)), c5x1, (.app (.i .u32) 16 2 c5x0), (.lit (.i .u8) 32), (.app (.i .u32)
    16 3 c5x0), (.lit (.i .u8) 32), c5x2, c5x3, c5x4, c5x5, (.lit .b 0), (.app (.i .u8) 16 0 c5x8), (.app (.i .u8) 16 1 c5x8), (.app (.i .u32) 16 2 c5x8), (.app (.i .u32) 16 3 c5x8), c5x9, c5x10, (.app (.i .u8) 16 6 c5x8), (.app (.i .u8) 16 7
    c5x8), (.app (.i .u8) 16 8 c5x8), (.app (.i .u8) 16 9 c5x8), (.app (.i .u32) 16 10 c5x8), (.app (.i .u32) 16 11 c5x8), (.app (.i .i64) 16 12 c5x8), (.app (.i .i64) 16 13 c5x8), (.app (.i .u8) 16 14 c5x8), (.app (.i .u32) 16 15 c5x8), (.app
    (.i .u32) 16 16 c5x8), (.app (.i .u16) 16 17 c5x8), (.app (.i .u16) 16 18 c5x8), (.app (.i .u8) 16 19 c5x8)]) (.and (.and (.cmp .eql (.app (.i .u8) 16 0 c5x8) (.app (.i .u8) 16 0 c5x0)) (.and (.cmp .eql (.app (.i .u8) 16 1 c5x8) (.app (.i
    .u8) 16 1 c5x0)) (.and (.cmp .eql (.app (.i .u32) 16 2 c5x8) (.app (.i .u32) 16 2 c5x0)) (.and (.cmp .eql (.app (.i .u32) 16 3 c5x8) (.app (.i .u32) 16 3 c5x0)) (.and (.cmp .eql c5x9 c5x6) (.cmp .eql c5x10 c5x7)))))) (.cmp .eql (.app (.i
    .u8) 16 7 c5x8) (.app (.i .u8) 16 7 c5x0))))))) (.and (.cmp .eql (.app (.i .i64) 14 1 c5x12) (.lit (.i .i64) 0)) (.cmp .eql (.app .b 14 0 c5x12) (.app .b 18 0 [(.app (.i .u8) 13 0 c5x11), (.app (.i .u8) 13 1 c5x11), (.app (.i .u8) 13 2
    c5x11), (.app (.i .u8) 13 3 c5x11), (.app (.i .u32) 13 4 c5x11), (.app (.i .u8) 13 5 c5x11), (.app (.i .u32) 13 6 c5x11), (.app (.i .u8) 13 7 c5x11), (.app (.i .u16) 13 8 c5x11), (.app (.i .u16) 13 9 c5x11), (.app (.i .u16) 13 10 c5x11),
    (.app (.i .u16) 13 11 c5x11), (.app .b 13 12 c5x11), (.app (.i .u8) 16 0 c5x0), (.app (.i .u8) 16 1 c5x0), (.app (.i .u32) 16 2 c5x0), (.app (.i .u32) 16 3 c5x0), c5x6, c5x7, (.app (.i .u8) 16 6 c5x0), (.app (.i .u8) 16 7 c5x0), (.app (.i
    .u8) 16 8 c5x0), (.app (.i .u8) 16 9 c5x0), (.app (.i .u32) 16 10 c5x0), (.app (.i .u32) 16 11 c5x0), (.app (.i .i64) 16 12 c5x0), (.app (.i .i64) 16 13 c5x0), (.app (.i .u8) 16 14 c5x0), (.app (.i .u32) 16 15 c5x0), (.app (.i .u32) 16 16
    c5x0), (.app (.i .u16) 16 17 c5x0), (.app (.i .u16) 16 18 c5x0), (.app (.i .u8) 16 19 c5x0)]))))]
def en5' : Entry := ⟨5, 5, [.a smallK, .a smallK, .a smallK], .one (.s (.b)), fnOf T18 es5⟩
theorem ok5' : EntryOK Tryd.prog G0 en5' := evE_ok (N := 200) (n := 20) (by kernel_rfl) tok18 (by kernel_rfl)
def en5 : Entry := ⟨5, 5, [.a smallK, .a smallK, .a smallK], .one (.s (.b)), fun _ _ => 1⟩
theorem lem5 : ∀ xs, fits (allKs en5'.ps) xs → outsE en5'.fn xs 0 en5'.rs.ks = outsE en5.fn xs 0 en5.rs.ks := by
  intro xs hx
  replace hx : fits [.i .u8, .i .u8, .i .u8, .i .u8, .i .u8, .i .u8, .i .u8, .i .u8, .i .u8, .i .u8, .i .u8, .i .u8, .b, .i .u8, .i .u8, .i .u8, .i .u8, .i .u8, .i .u8, .i .u8, .i .u8, .i .u8, .i .u8, .i .u8, .i .u8, .b, .i .u8, .i .u8, .i .u8, .i .u8, .i .u8, .i .u8, .i .u8, .i .u8, .i .u8, .i .u8, .i .u8, .i .u8, .b] xs := hx
  obtain ⟨a0, r0, rfl, h0, y0⟩ := fits_cons hx
  obtain ⟨a1, r1, rfl, h1, y1⟩ := fits_cons y0
  obtain ⟨a2, r2, rfl, h2, y2⟩ := fits_cons y1
  obtain ⟨a3, r3, rfl, h3, y3⟩ := fits_cons y2
  obtain ⟨a4, r4, rfl, h4, y4⟩ := fits_cons y3
  obtain ⟨a5, r5, rfl, h5, y5⟩ := fits_cons y4
  obtain ⟨a6, r6, rfl, h6, y6⟩ := fits_cons y5
  obtain ⟨a7, r7, rfl, h7, y7⟩ := fits_cons y6
  obtain ⟨a8, r8, rfl, h8, y8⟩ := fits_cons y7
  obtain ⟨a9, r9, rfl, h9, y9⟩ := fits_cons y8
  obtain ⟨a10, r10, rfl, h10, y10⟩ := fits_cons y9
  obtain ⟨a11, r11, rfl, h11, y11⟩ := fits_cons y10
  obtain ⟨a12, r12, rfl, h12, y12⟩ := fits_cons y11
  obtain ⟨a13, r13, rfl, h13, y13⟩ := fits_cons y12
  obtain ⟨a14, r14, rfl, h14, y14⟩ := fits_cons y13
  obtain ⟨a15, r15, rfl, h15, y15⟩ := fits_cons y14
  obtain ⟨a16, r16, rfl, h16, y16⟩ := fits_cons y15
  obtain ⟨a17, r17, rfl, h17, y17⟩ := fits_cons y16
  obtain ⟨a18, r18, rfl, h18, y18⟩ := fits_cons y17
  obtain ⟨a19, r19, rfl, h19, y19⟩ := fits_cons y18
  obtain ⟨a20, r20, rfl, h20, y20⟩ := fits_cons y19
  obtain ⟨a21, r21, rfl, h21, y21⟩ := fits_cons y20
  obtain ⟨a22, r22, rfl, h22, y22⟩ := fits_cons y21
  obtain ⟨a23, r23, rfl, h23, y23⟩ := fits_cons y22
  obtain ⟨a24, r24, rfl, h24, y24⟩ := fits_cons y23
  obtain ⟨a25, r25, rfl, h25, y25⟩ := fits_cons y24
  obtain ⟨a26, r26, rfl, h26, y26⟩ := fits_cons y25
  obtain ⟨a27, r27, rfl, h27, y27⟩ := fits_cons y26
  obtain ⟨a28, r28, rfl, h28, y28⟩ := fits_cons y27
  obtain ⟨a29, r29, rfl, h29, y29⟩ := fits_cons y28
  obtain ⟨a30, r30, rfl, h30, y30⟩ := fits_cons y29
  obtain ⟨a31, r31, rfl, h31, y31⟩ := fits_cons y30
  obtain ⟨a32, r32, rfl, h32, y32⟩ := fits_cons y31
  obtain ⟨a33, r33, rfl, h33, y33⟩ := fits_cons y32
  obtain ⟨a34, r34, rfl, h34, y34⟩ := fits_cons y33
  obtain ⟨a35, r35, rfl, h35, y35⟩ := fits_cons y34
  obtain ⟨a36, r36, rfl, h36, y36⟩ := fits_cons y35
  obtain ⟨a37, r37, rfl, h37, y37⟩ := fits_cons y36
  obtain ⟨a38, r38, rfl, h38, y38⟩ := fits_cons y37
  obtain rfl := fits_nil y38
  clear hx y0 y1 y2 y3 y4 y5 y6 y7 y8 y9 y10 y11 y12 y13 y14 y15 y16 y17 y18 y19 y20 y21 y22 y23 y24 y25 y26 y27 y28 y29 y30 y31 y32 y33 y34 y35 y36 y37 y38
  refine outs_one ?_
  show fnOf T18 es5 0 [a0, a1, a2, a3, a4, a5, a6, a7, a8, a9, a10, a11, a12, a13, a14, a15, a16, a17, a18, a19, a20, a21, a22, a23, a24, a25, a26, a27, a28, a29, a30, a31, a32, a33, a34, a35, a36, a37, a38] = 1
  obtain ⟨P, eP⟩ : ∃ P : Nat → Int, P = fun j => fnOf T13 es16 j [a0, a1, a2, a3, a4, a5, a6, a7, a8, a9, a10, a11, a12] := ⟨_, rfl⟩
  have kP : Pk P := by rw [eP]; exact pkt_pk (show fits smallK [a0, a1, a2, a3, a4, a5, a6, a7, a8, a9, a10, a11, a12] from ⟨h0, h1, h2, h3, h4, h5, h6, h7, h8, h9, h10, h11, h12, trivial⟩)
  have FP : ∀ j, T18.F 16 j [a0, a1, a2, a3, a4, a5, a6, a7, a8, a9, a10, a11, a12] = P j := fun j => by rw [eP]; rfl
  have NP := kP.nrm
  clear eP
  obtain ⟨Q, eQ⟩ : ∃ Q : Nat → Int, Q = fun j => fnOf T13 es16 j [a13, a14, a15, a16, a17, a18, a19, a20, a21, a22, a23, a24, a25] := ⟨_, rfl⟩
  have kQ : Pk Q := by rw [eQ]; exact pkt_pk (show fits smallK [a13, a14, a15, a16, a17, a18, a19, a20, a21, a22, a23, a24, a25] from ⟨h13, h14, h15, h16, h17, h18, h19, h20, h21, h22, h23, h24, h25, trivial⟩)
  have FQ : ∀ j, T18.F 16 j [a13, a14, a15, a16, a17, a18, a19, a20, a21, a22, a23, a24, a25] = Q j := fun j => by rw [eQ]; rfl
  have NQ := kQ.nrm
  clear eQ
  obtain ⟨W, eW⟩ : ∃ W : Nat → Int, W = fun j => fnOf T28 es13 j [a26, a27, a28, a29, a30, a31, a32, a33, a34, a35, a36, a37, a38] := ⟨_, rfl⟩
  have mW := made_rl (show fits smallK [a26, a27, a28, a29, a30, a31, a32, a33, a34, a35, a36, a37, a38] from ⟨h26, h27, h28, h29, h30, h31, h32, h33, h34, h35, h36, h37, h38, trivial⟩)
  have rW : Rl W := by rw [eW]; exact mW.1
  have bW : K.norm .b (W 12) = W 12 := by rw [eW]; exact mW.2
  have FW : ∀ j, T18.F 13 j [a26, a27, a28, a29, a30, a31, a32, a33, a34, a35, a36, a37, a38] = W j := fun j => by rw [eW]; rfl
  have NW := rW.i.nrm
  clear mW eW
  have w17 : T18.F 17 0 [P 0, P 1, bif P 1 == 6 then 63 else 0, bif P 1 == 6 then P 7 else 0, P 2, 32, P 3, 32, bif P 1 != 1 then P 4 else 0, bif P 1 != 1 then P 4 else 65535, bif P 1 != 1 then P 5 else 0, bif P 1 != 1 then P 5 else 65535, 0] = b2i (rightS (oneF P)) := W17 (oneF P)
  have w18 : T18.F 18 0 [P 0, P 1, bif P 1 == 6 then 63 else 0, bif P 1 == 6 then P 7 else 0, P 2, 32, P 3, 32, bif P 1 != 1 then P 4 else 0, bif P 1 != 1 then P 4 else 65535, bif P 1 != 1 then P 5 else 0, bif P 1 != 1 then P 5 else 65535, 0, P 0, P 1, P 2, P 3, bif P 1 == 1 then 0 else P 4, bif P 1 == 1 then 0 else P 5, K.norm (.i .u8) (P 6), P 7, K.norm (.i .u8) (P 8), K.norm (.i .u8) (P 9), K.norm (.i .u32) (P 10), K.norm (.i .u32) (P 11), K.norm (.i .i64) (P 12), K.norm (.i .i64) (P 13), K.norm (.i .u8) (P 14), K.norm (.i .u32) (P 15), K.norm (.i .u32) (P 16), K.norm (.i .u16) (P 17), K.norm (.i .u16) (P 18), K.norm (.i .u8) (P 19)] = b2i (rightS (oneF P) && (goodP (P 0) (P 1) && meetsS (oneF P) (P 0) (P 1) (P 2) (P 3) (bif P 1 == 1 then 0 else P 4) (bif P 1 == 1 then 0 else P 5) (P 7))) := W18 (oneF P) (P 0) (P 1) (P 2) (P 3) (bif P 1 == 1 then 0 else P 4) (bif P 1 == 1 then 0 else P 5) (K.norm (.i .u8) (P 6)) (P 7) (K.norm (.i .u8) (P 8)) (K.norm (.i .u8) (P 9)) (K.norm (.i .u32) (P 10)) (K.norm (.i .u32) (P 11)) (K.norm (.i .i64) (P 12)) (K.norm (.i .i64) (P 13)) (K.norm (.i .u8) (P 14)) (K.norm (.i .u32) (P 15)) (K.norm (.i .u32) (P 16)) (K.norm (.i .u16) (P 17)) (K.norm (.i .u16) (P 18)) (K.norm (.i .u8) (P 19))
  have v18 : T18.F 18 0 [P 0, P 1, bif P 1 == 6 then 63 else 0, bif P 1 == 6 then P 7 else 0, P 2, 32, P 3, 32, bif P 1 != 1 then P 4 else 0, bif P 1 != 1 then P 4 else 65535, bif P 1 != 1 then P 5 else 0, bif P 1 != 1 then P 5 else 65535, 0, Q 0, Q 1, Q 2, Q 3, bif Q 1 == 1 then 0 else Q 4, bif Q 1 == 1 then 0 else Q 5, K.norm (.i .u8) (Q 6), Q 7, K.norm (.i .u8) (Q 8), K.norm (.i .u8) (Q 9), K.norm (.i .u32) (Q 10), K.norm (.i .u32) (Q 11), K.norm (.i .i64) (Q 12), K.norm (.i .i64) (Q 13), K.norm (.i .u8) (Q 14), K.norm (.i .u32) (Q 15), K.norm (.i .u32) (Q 16), K.norm (.i .u16) (Q 17), K.norm (.i .u16) (Q 18), K.norm (.i .u8) (Q 19)] = b2i (rightS (oneF P) && (goodP (Q 0) (Q 1) && meetsS (oneF P) (Q 0) (Q 1) (Q 2) (Q 3) (bif Q 1 == 1 then 0 else Q 4) (bif Q 1 == 1 then 0 else Q 5) (Q 7))) := W18 (oneF P) (Q 0) (Q 1) (Q 2) (Q 3) (bif Q 1 == 1 then 0 else Q 4) (bif Q 1 == 1 then 0 else Q 5) (K.norm (.i .u8) (Q 6)) (Q 7) (K.norm (.i .u8) (Q 8)) (K.norm (.i .u8) (Q 9)) (K.norm (.i .u32) (Q 10)) (K.norm (.i .u32) (Q 11)) (K.norm (.i .i64) (Q 12)) (K.norm (.i .i64) (Q 13)) (K.norm (.i .u8) (Q 14)) (K.norm (.i .u32) (Q 15)) (K.norm (.i .u32) (Q 16)) (K.norm (.i .u16) (Q 17)) (K.norm (.i .u16) (Q 18)) (K.norm (.i .u8) (Q 19))
  have w14 : T18.F 14 0 [P 0, P 1, bif P 1 == 6 then 63 else 0, bif P 1 == 6 then P 7 else 0, P 2, 32, P 3, 32, bif P 1 != 1 then P 4 else 0, bif P 1 != 1 then P 4 else 65535, bif P 1 != 1 then P 5 else 0, bif P 1 != 1 then P 5 else 65535, 0, W 0, W 1, W 2, W 3, W 4, W 5, W 6, W 7, W 8, W 9, W 10, W 11, W 12] = b2i (winB (oneF P) W) := W14 (oneF P) W
  have v14 : T18.F 14 1 [P 0, P 1, bif P 1 == 6 then 63 else 0, bif P 1 == 6 then P 7 else 0, P 2, 32, P 3, 32, bif P 1 != 1 then P 4 else 0, bif P 1 != 1 then P 4 else 65535, bif P 1 != 1 then P 5 else 0, bif P 1 != 1 then P 5 else 65535, 0, W 0, W 1, W 2, W 3, W 4, W 5, W 6, W 7, W 8, W 9, W 10, W 11, W 12] = winE (oneF P) W := V14 (oneF P) W
  have gd : ∀ R : Nat → Int, Pk R → goodP (R 0) (R 1) = true := fun R h => by
    have h0 := h.b0
    have h1 := h.b1
    unfold goodP; simp; omega
  have rO := one_rl kP
  have m1 : meetsS (oneF P) (P 0) (P 1) (P 2) (P 3) (bif P 1 == 1 then 0 else P 4) (bif P 1 == 1 then 0 else P 5) (P 7) = true := by
    have := one_meets kP kP
    unfold portF at this
    rw [this]
    simp only [beq_self_eq_true, Bool.and_self]
  have m2 : meetsS (oneF P) (Q 0) (Q 1) (Q 2) (Q 3) (bif Q 1 == 1 then 0 else Q 4) (bif Q 1 == 1 then 0 else Q 5) (Q 7) = _ := one_meets kP kQ
  have m3 : insS (oneF P) W = meetsS W (P 0) (P 1) (P 2) (P 3) (bif P 1 == 1 then 0 else P 4) (bif P 1 == 1 then 0 else P 5) (P 7) := one_within kP rW
  unfold portF at m2
  simp only [es5, c5x0, c5x1, c5x2, c5x3, c5x4, c5x5, c5x6, c5x7, c5x8, c5x9, c5x10, c5x11, c5x12, fnOf, E.den, E.denL, binI, dvI, shI, cmpB, List.getD_cons_zero, List.getD_cons_succ, i2b_b2i, norm_b2i, FP, FQ, FW, h0, h1, h2, h3, h4, h5, h6, h7, h8, h9, h10, h11, h12, h13, h14, h15, h16, h17, h18, h19, h20, h21, h22, h23, h24, h25, h26, h27, h28, h29, h30, h31, h32, h33, h34, h35, h36, h37, h38, NP.n0, NP.n1, NP.n2, NP.n3, NP.n4, NP.n5, NP.n7, NQ.n0, NQ.n1, NQ.n2, NQ.n3, NQ.n4, NQ.n5, NQ.n7, NW.n0, NW.n1, NW.n2, NW.n3, NW.n4, NW.n5, NW.n6, NW.n7, NW.n8, NW.n9, NW.n10, NW.n11, bW, nz, show K.norm (.i .u8) 1 = 1 from rfl, show K.norm (.i .u8) 6 = 6 from rfl, show K.norm (.i .u8) 32 = 32 from rfl, show K.norm (.i .u8) 63 = 63 from rfl, show K.norm (.i .u16) 65535 = 65535 from rfl]
  simp only [w17, w18, v18, w14, v14, W18 W, (win_rl rO rW).1, (win_rl rO rW).2, rO.right, rW.right, gd P kP, gd Q kQ, m1, m2, m3, i2b_b2i, norm_b2i, b2i_beq, nz, beq_self_eq_true, bne_self_eq_false, Bool.not_true, Bool.not_false, Bool.or_self, Bool.or_false, Bool.false_or, Bool.and_self, Bool.true_and, Bool.and_true, Bool.false_and, Bool.and_false, Bool.true_or, Bool.or_true, cond_true, cond_false]
  rfl
theorem ok5 : EntryOK Tryd.prog G0 en5 := ok5'.congr lem5
def T5 : Tabs := en5 :: T18
theorem tok5 : TabsOK Tryd.prog G0 T5 := .cons ok5 tok18

end Go.Proofs.YtbolcnlenmphhaaDoor
