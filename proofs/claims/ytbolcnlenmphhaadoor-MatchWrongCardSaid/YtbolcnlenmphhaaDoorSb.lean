/- Layer 26: MatchMeets. Printed by a program from the evaluator's own output; the lemmas by hand. -/
import Derived.Test.YtbolcnlenmphhaaDoorS9
import Derived.Test.YtbolcnlenmphhaaDoorFp
set_option linter.unusedVariables false
set_option linter.unusedSimpArgs false
namespace Go.Proofs.YtbolcnlenmphhaaDoor
open Go Go.RowKit Ev


theorem pkt_good {a0 a1 a2 a3 a4 a5 a6 a7 a8 a9 a10 a11 a12 : Int} (h : fits smallK [a0, a1, a2, a3, a4, a5, a6, a7, a8, a9, a10, a11, a12]) : goodP (K.norm (.i .u8) (fnOf T13 es16 0 [a0, a1, a2, a3, a4, a5, a6, a7, a8, a9, a10, a11, a12])) (K.norm (.i .u8) (fnOf T13 es16 1 [a0, a1, a2, a3, a4, a5, a6, a7, a8, a9, a10, a11, a12])) = true := by
  replace h : fits [.i .u8, .i .u8, .i .u8, .i .u8, .i .u8, .i .u8, .i .u8, .i .u8, .i .u8, .i .u8, .i .u8, .i .u8, .b] [a0, a1, a2, a3, a4, a5, a6, a7, a8, a9, a10, a11, a12] := h
  obtain ⟨h0, h1, h2, h3, h4, h5, h6, h7, h8, h9, h10, h11, h12, _⟩ := h
  obtain ⟨u0, u1, u2⟩ := tm8 (rng8 h0) (n := 2) (by omega) (by omega)
  simp only [es16, c16x0, c16x1, c16x2, fnOf, E.den, E.denL, binI, dvI, shI, cmpB, List.getD_cons_zero, List.getD_cons_succ, i2b_b2i, norm_b2i, h0, h1, h2, h3, h4, h5, h6, h7, h8, h9, h10, h11, h12]
  rw [n8 ⟨u0, u2⟩]
  cases a1.tmod 3 == K.norm (.i .i64) 0
  · cases a1.tmod 3 == K.norm (.i .i64) 1
    · show goodP (a0.tmod 2) 17 = true
      unfold goodP; simp; omega
    · show goodP (a0.tmod 2) 6 = true
      unfold goodP; simp; omega
  · show goodP (a0.tmod 2) 1 = true
    unfold goodP; simp; omega

def c6x0 : List E :=
  [(.var (.i .u8) 0), (.var (.i .u8) 1), (.var (.i .u8) 2), (.var (.i .u8) 3), (.var (.i .u8) 4), (.var (.i .u8) 5), (.var (.i .u8) 6), (.var (.i .u8) 7), (.var (.i .u8) 8), (.var (.i .u8) 9), (.var (.i .u8) 10), (.var (.i .u8) 11), (.var .b
    12)]
def c6x1 : List E :=
  [(.var (.i .u8) 13), (.var (.i .u8) 14), (.var (.i .u8) 15), (.var (.i .u8) 16), (.var (.i .u8) 17), (.var (.i .u8) 18), (.var (.i .u8) 19), (.var (.i .u8) 20), (.var (.i .u8) 21), (.var (.i .u8) 22), (.var (.i .u8) 23), (.var (.i .u8) 24),
    (.var .b 25)]
def c6x2 : List E :=
  [(.app (.i .u8) 13 0 c6x0), (.app (.i .u8) 13 1 c6x0), (.app (.i .u8) 13 2 c6x0), (.app (.i .u8) 13 3 c6x0), (.app (.i .u32) 13 4 c6x0), (.app (.i .u8) 13 5 c6x0), (.app (.i .u32) 13 6 c6x0), (.app (.i .u8) 13 7 c6x0), (.app (.i .u16) 13 8
    c6x0), (.app (.i .u16) 13 9 c6x0), (.app (.i .u16) 13 10 c6x0), (.app (.i .u16) 13 11 c6x0), (.app .b 13 12 c6x0), (.app (.i .u8) 13 0 c6x1), (.app (.i .u8) 13 1 c6x1), (.app (.i .u8) 13 2 c6x1), (.app (.i .u8) 13 3 c6x1), (.app (.i .u32)
    13 4 c6x1), (.app (.i .u8) 13 5 c6x1), (.app (.i .u32) 13 6 c6x1), (.app (.i .u8) 13 7 c6x1), (.app (.i .u16) 13 8 c6x1), (.app (.i .u16) 13 9 c6x1), (.app (.i .u16) 13 10 c6x1), (.app (.i .u16) 13 11 c6x1), (.app .b 13 12 c6x1)]
def c6x3 : List E :=
  [(.app (.i .u8) 13 0 c6x1), (.app (.i .u8) 13 1 c6x1), (.app (.i .u8) 13 2 c6x1), (.app (.i .u8) 13 3 c6x1), (.app (.i .u32) 13 4 c6x1), (.app (.i .u8) 13 5 c6x1), (.app (.i .u32) 13 6 c6x1), (.app (.i .u8) 13 7 c6x1), (.app (.i .u16) 13 8
    c6x1), (.app (.i .u16) 13 9 c6x1), (.app (.i .u16) 13 10 c6x1), (.app (.i .u16) 13 11 c6x1), (.app .b 13 12 c6x1), (.app (.i .u8) 13 0 c6x0), (.app (.i .u8) 13 1 c6x0), (.app (.i .u8) 13 2 c6x0), (.app (.i .u8) 13 3 c6x0), (.app (.i .u32)
    13 4 c6x0), (.app (.i .u8) 13 5 c6x0), (.app (.i .u32) 13 6 c6x0), (.app (.i .u8) 13 7 c6x0), (.app (.i .u16) 13 8 c6x0), (.app (.i .u16) 13 9 c6x0), (.app (.i .u16) 13 10 c6x0), (.app (.i .u16) 13 11 c6x0), (.app .b 13 12 c6x0)]
def c6x4 : List E :=
  [(.var (.i .u8) 26), (.var (.i .u8) 27), (.var (.i .u8) 28), (.var (.i .u8) 29), (.var (.i .u8) 30), (.var (.i .u8) 31), (.var (.i .u8) 32), (.var (.i .u8) 33), (.var (.i .u8) 34), (.var (.i .u8) 35), (.var (.i .u8) 36), (.var (.i .u8) 37),
    (.var .b 38)]
def c6x5 : List E :=
  [(.app (.i .u8) 13 0 c6x0), (.app (.i .u8) 13 1 c6x0), (.app (.i .u8) 13 2 c6x0), (.app (.i .u8) 13 3 c6x0), (.app (.i .u32) 13 4 c6x0), (.app (.i .u8) 13 5 c6x0), (.app (.i .u32) 13 6 c6x0), (.app (.i .u8) 13 7 c6x0), (.app (.i .u16) 13 8
    c6x0), (.app (.i .u16) 13 9 c6x0), (.app (.i .u16) 13 10 c6x0), (.app (.i .u16) 13 11 c6x0), (.app .b 13 12 c6x0), (.app (.i .u8) 16 0 c6x4), (.app (.i .u8) 16 1 c6x4), (.app (.i .u32) 16 2 c6x4), (.app (.i .u32) 16 3 c6x4), (.app (.i .u16)
    16 4 c6x4), (.app (.i .u16) 16 5 c6x4), (.app (.i .u8) 16 6 c6x4), (.app (.i .u8) 16 7 c6x4), (.app (.i .u8) 16 8 c6x4), (.app (.i .u8) 16 9 c6x4), (.app (.i .u32) 16 10 c6x4), (.app (.i .u32) 16 11 c6x4), (.app (.i .i64) 16 12 c6x4), (.app
    (.i .i64) 16 13 c6x4), (.app (.i .u8) 16 14 c6x4), (.app (.i .u32) 16 15 c6x4), (.app (.i .u32) 16 16 c6x4), (.app (.i .u16) 16 17 c6x4), (.app (.i .u16) 16 18 c6x4), (.app (.i .u8) 16 19 c6x4)]
def c6x6 : List E :=
  [(.app (.i .u8) 13 0 c6x1), (.app (.i .u8) 13 1 c6x1), (.app (.i .u8) 13 2 c6x1), (.app (.i .u8) 13 3 c6x1), (.app (.i .u32) 13 4 c6x1), (.app (.i .u8) 13 5 c6x1), (.app (.i .u32) 13 6 c6x1), (.app (.i .u8) 13 7 c6x1), (.app (.i .u16) 13 8
    c6x1), (.app (.i .u16) 13 9 c6x1), (.app (.i .u16) 13 10 c6x1), (.app (.i .u16) 13 11 c6x1), (.app .b 13 12 c6x1), (.app (.i .u8) 16 0 c6x4), (.app (.i .u8) 16 1 c6x4), (.app (.i .u32) 16 2 c6x4), (.app (.i .u32) 16 3 c6x4), (.app (.i .u16)
    16 4 c6x4), (.app (.i .u16) 16 5 c6x4), (.app (.i .u8) 16 6 c6x4), (.app (.i .u8) 16 7 c6x4), (.app (.i .u8) 16 8 c6x4), (.app (.i .u8) 16 9 c6x4), (.app (.i .u32) 16 10 c6x4), (.app (.i .u32) 16 11 c6x4), (.app (.i .i64) 16 12 c6x4), (.app
    (.i .i64) 16 13 c6x4), (.app (.i .u8) 16 14 c6x4), (.app (.i .u32) 16 15 c6x4), (.app (.i .u32) 16 16 c6x4), (.app (.i .u16) 16 17 c6x4), (.app (.i .u16) 16 18 c6x4), (.app (.i .u8) 16 19 c6x4)]
def c6x7 : E :=
  (.and (.cmp .eql (.app (.i .u32) 15 4 c6x3) (.app (.i .u32) 15 4 c6x2)) (.cmp .eql (.app (.i .u8) 15 5 c6x3) (.app (.i .u8) 15 5 c6x2)))
def c6x8 : E :=
  (.and (.cmp .eql (.app (.i .u32) 15 6 c6x3) (.app (.i .u32) 15 6 c6x2)) (.cmp .eql (.app (.i .u8) 15 7 c6x3) (.app (.i .u8) 15 7 c6x2)))
def c6x9 : E :=
  (.and (.cmp .eql (.app (.i .u16) 15 8 c6x3) (.app (.i .u16) 15 8 c6x2)) (.cmp .eql (.app (.i .u16) 15 9 c6x3) (.app (.i .u16) 15 9 c6x2)))
def c6x10 : E :=
  (.and (.cmp .eql (.app (.i .u16) 15 10 c6x3) (.app (.i .u16) 15 10 c6x2)) (.cmp .eql (.app (.i .u16) 15 11 c6x3) (.app (.i .u16) 15 11 c6x2)))
def c6x11 : List E :=
  [(.app (.i .u8) 15 0 c6x2), (.app (.i .u8) 15 1 c6x2), (.app (.i .u8) 15 2 c6x2), (.app (.i .u8) 15 3 c6x2), (.app (.i .u32) 15 4 c6x2), (.app (.i .u8) 15 5 c6x2), (.app (.i .u32) 15 6 c6x2), (.app (.i .u8) 15 7 c6x2), (.app (.i .u16) 15 8
    c6x2), (.app (.i .u16) 15 9 c6x2), (.app (.i .u16) 15 10 c6x2), (.app (.i .u16) 15 11 c6x2), (.app .b 15 12 c6x2)]
def es6 : List E :=
  [(.ite (.cmp .eql (.app (.i .i64) 15 13 c6x2) (.lit (.i .i64) 6)) (.and (.and (.and (.cmp .eql (.app (.i .i64) 15 13 c6x3) (.app (.i .i64) 15 13 c6x2)) (.not (.and (.app .b 18 0 c6x5) (.app .b 18 0 c6x6)))) (.and (.cmp .eql (.app (.i .u8)
    15 0 c6x2) (.lit (.i .u8) 0)) (.and (.cmp .eql (.app (.i .u8) 15 1 c6x2) (.lit (.i .u8) 0)) (.and (.cmp .eql (.app (.i .u8) 15 2 c6x2) (.lit (.i .u8) 0)) (.and (.cmp .eql (.app (.i .u8) 15 3 c6x2) (.lit (.i .u8) 0)) (.and (.and (.cmp .eql
    (.app (.i .u32) 15 4 c6x2) (.lit (.i .u32) 0)) (.cmp .eql (.app (.i .u8) 15 5 c6x2) (.lit (.i .u8) 0))) (.and (.and (.cmp .eql (.app (.i .u32) 15 6 c6x2) (.lit (.i .u32) 0)) (.cmp .eql (.app (.i .u8) 15 7 c6x2) (.lit (.i .u8) 0))) (.and
    (.and (.cmp .eql (.app (.i .u16) 15 8 c6x2) (.lit (.i .u16) 0)) (.cmp .eql (.app (.i .u16) 15 9 c6x2) (.lit (.i .u16) 0))) (.and (.and (.cmp .eql (.app (.i .u16) 15 10 c6x2) (.lit (.i .u16) 0)) (.cmp .eql (.app (.i .u16) 15 11 c6x2) (.lit
    (.i .u16) 0))) (.not (.app .b 15 12 c6x2))))))))))) (.and (.cmp .eql (.app (.i .u8) 15 0 c6x3) (.app (.i .u8) 15 0 c6x2)) (.and (.cmp .eql (.app (.i .u8) 15 1 c6x3) (.app (.i .u8) 15 1 c6x2)) (.and (.cmp .eql (.app (.i .u8) 15 2 c6x3) (.app
    (.i .u8) 15 2 c6x2)) (.and (.cmp .eql (.app (.i .u8) 15 3 c6x3) (.app (.i .u8) 15 3 c6x2)) (.and c6x7 (.and c6x8 (.and c6x9 (.and c6x10 (.cmp .eql (.app .b 15 12 c6x3) (.app .b 15 12 c6x2))))))))))) (.and (.not (.or (.or (.or (.or (.cmp
    .neq (.app (.i .i64) 15 13 c6x2) (.lit (.i .i64) 0)) (.cmp .neq (.app (.i .i64) 15 13 c6x3) (.app (.i .i64) 15 13 c6x2))) (.not (.app .b 17 0 c6x11))) (.not (.and (.cmp .eql (.app (.i .u8) 15 0 c6x3) (.app (.i .u8) 15 0 c6x2)) (.and (.cmp
    .eql (.app (.i .u8) 15 1 c6x3) (.app (.i .u8) 15 1 c6x2)) (.and (.cmp .eql (.app (.i .u8) 15 2 c6x3) (.app (.i .u8) 15 2 c6x2)) (.and (.cmp .eql (.app (.i .u8) 15 3 c6x3) (.app (.i .u8) 15 3 c6x2)) (.and c6x7 (.and c6x8 (.and c6x9 (.and
    c6x10 (.cmp .eql (.app .b 13 12 c6x0) (.app .b 15 12 c6x2)))))))))))) (.not (.cmp .eql (.app .b 18 0 [(.app (.i .u8) 15 0 c6x2), (.app (.i .u8) 15 1 c6x2), (.app (.i .u8) 15 2 c6x2), (.app (.i .u8) 15 3 c6x2), (.app (.i .u32) 15 4 c6x2),
    (.app (.i .u8) 15 5 c6x2), (.app (.i .u32) 15 6 c6x2), (.app (.i .u8) 15 7 c6x2), (.app (.i .u16) 15 8 c6x2), (.app (.i .u16) 15 9 c6x2), (.app (.i .u16) 15 10 c6x2), (.app (.i .u16) 15 11 c6x2), (.app .b 15 12 c6x2), (.app (.i .u8) 16 0
    c6x4), (.app (.i .u8) 16 1 c6x4), (.app (.i .u32) 16 2 c6x4), (.app (.i .u32) 16 3 c6x4), (.app (.i .u16) 16 4 c6x4), (.app (.i .u16) 16 5 c6x4), (.app (.i .u8) 16 6 c6x4), (.app (.i .u8) 16 7 c6x4), (.app (.i .u8) 16 8 c6x4), (.app (.i
    .u8) 16 9 c6x4), (.app (.i .u32) 16 10 c6x4), (.app (.i .u32) 16 11 c6x4), (.app (.i .i64) 16 12 c6x4), (.app (.i .i64) 16 13 c6x4), (.app (.i .u8) 16 14 c6x4), (.app (.i .u32) 16 15 c6x4), (.app (.i .u32) 16 16 c6x4), (.app (.i .u16) 16 17
    c6x4), (.app (.i .u16) 16 18 c6x4), (.app (.i .u8) 16 19 c6x4)]) (.and (.app .b 18 0 c6x5) (.app .b 18 0 c6x6)))))) (.and (.and (.cmp .eql (.app (.i .i64) 19 20 c6x11) (.lit (.i .i64) 0)) (.app .b 18 0 [(.app (.i .u8) 13 0 c6x0), (.app (.i
    .u8) 13 1 c6x0), (.app (.i .u8) 13 2 c6x0), (.app (.i .u8) 13 3 c6x0), (.app (.i .u32) 13 4 c6x0), (.app (.i .u8) 13 5 c6x0), (.app (.i .u32) 13 6 c6x0), (.app (.i .u8) 13 7 c6x0), (.app (.i .u16) 13 8 c6x0), (.app (.i .u16) 13 9 c6x0),
    (.app (.i .u16) 13 10 c6x0), (.app (.i .u16) 13 11 c6x0), (.app .b 13 12 c6x0), (.app (.i .u8) 19 0 c6x11), (.app (.i .u8) 19 1 c6x11), (.app (.i .u32) 19 2 c6x11), (.app (.i .u32) 19 3 c6x11), (.app (.i .u16) 19 4 c6x11), (.app (.i .u16)
    19 5 c6x11), (.app (.i .u8) 19 6 c6x11), (.app (.i .u8) 19 7 c6x11), (.app (.i .u8) 19 8 c6x11), (.app (.i .u8) 19 9 c6x11), (.app (.i .u32) 19 10 c6x11), (.app (.i .u32) 19 11 c6x11), (.app (.i .i64) 19 12 c6x11), (.app (.i .i64) 19 13
    c6x11), (.app (.i .u8) 19 14 c6x11), (.app (.i .u32) 19 15 c6x11), (.app (.i .u32) 19 16 c6x11), (.app (.i .u16) 19 17 c6x11), (.app (.i .u16) 19 18 c6x11), (.app (.i .u8) 19 19 c6x11)])) (.app .b 18 0 [(.app (.i .u8) 13 0 c6x1), (.app (.i
    .u8) 13 1 c6x1), (.app (.i .u8) 13 2 c6x1), (.app (.i .u8) 13 3 c6x1), (.app (.i .u32) 13 4 c6x1), (.app (.i .u8) 13 5 c6x1), (.app (.i .u32) 13 6 c6x1), (.app (.i .u8) 13 7 c6x1), (.app (.i .u16) 13 8 c6x1), (.app (.i .u16) 13 9 c6x1),
    (.app (.i .u16) 13 10 c6x1), (.app (.i .u16) 13 11 c6x1), (.app .b 13 12 c6x1), (.app (.i .u8) 19 0 c6x11), (.app (.i .u8) 19 1 c6x11), (.app (.i .u32) 19 2 c6x11), (.app (.i .u32) 19 3 c6x11), (.app (.i .u16) 19 4 c6x11), (.app (.i .u16)
    19 5 c6x11), (.app (.i .u8) 19 6 c6x11), (.app (.i .u8) 19 7 c6x11), (.app (.i .u8) 19 8 c6x11), (.app (.i .u8) 19 9 c6x11), (.app (.i .u32) 19 10 c6x11), (.app (.i .u32) 19 11 c6x11), (.app (.i .i64) 19 12 c6x11), (.app (.i .i64) 19 13
    c6x11), (.app (.i .u8) 19 14 c6x11), (.app (.i .u32) 19 15 c6x11), (.app (.i .u32) 19 16 c6x11), (.app (.i .u16) 19 17 c6x11), (.app (.i .u16) 19 18 c6x11), (.app (.i .u8) 19 19 c6x11)]))))]
def en6' : Entry := ⟨6, 6, [.a smallK, .a smallK, .a smallK], .one (.s (.b)), fnOf T18 es6⟩
theorem ok6' : EntryOK Tryd.prog G0 en6' := evE_ok (N := 200) (n := 20) (by kernel_rfl) tok18 (by kernel_rfl)
def en6 : Entry := ⟨6, 6, [.a smallK, .a smallK, .a smallK], .one (.s (.b)), fun _ _ => 1⟩
theorem lem6 : ∀ xs, fits (allKs en6'.ps) xs → outsE en6'.fn xs 0 en6'.rs.ks = outsE en6.fn xs 0 en6.rs.ks := by
  intro xs hx
  replace hx : fits [.i .u8, .i .u8, .i .u8, .i .u8, .i .u8, .i .u8, .i .u8, .i .u8, .i .u8, .i .u8, .i .u8, .i .u8, .b, .i .u8, .i .u8, .i .u8, .i .u8, .i .u8, .i .u8, .i .u8, .i .u8, .i .u8, .i .u8, .i .u8, .i .u8, .b, .i .u8, .i .u8, .i .u8, .i .u8, .i .u8, .i .u8, .i .u8, .i .u8, .i .u8, .i .u8, .i .u8, .i .u8, .b] xs := hx
  obtain ⟨a0, r0, rfl, h0, y0⟩ := fits_cons hx
  obtain ⟨a1, r1, rfl, h1, y1⟩ := fits_cons y0
  obtain ⟨a2, r2, rfl, h2, y2⟩ := fits_cons y1
  obtain ⟨a3, r3, rfl, h3, y3⟩ := fits_cons y2
  obtain ⟨a4, r4, rfl, h4, y4⟩ := fits_cons y3
  obtain ⟨a5, r5, rfl, h5, y5⟩ := fits_cons y4
  obtain ⟨a6, r6, rfl, h6, y6⟩ := fits_cons y5
  obtain ⟨a7, r7, rfl, h7, y7⟩ := fits_cons y6
  obtain ⟨a8, r8, rfl, h8, y8⟩ := fits_cons y7
  obtain ⟨a9, r9, rfl, h9, y9⟩ := fits_cons y8
  obtain ⟨a10, r10, rfl, h10, y10⟩ := fits_cons y9
  obtain ⟨a11, r11, rfl, h11, y11⟩ := fits_cons y10
  obtain ⟨a12, r12, rfl, h12, y12⟩ := fits_cons y11
  obtain ⟨a13, r13, rfl, h13, y13⟩ := fits_cons y12
  obtain ⟨a14, r14, rfl, h14, y14⟩ := fits_cons y13
  obtain ⟨a15, r15, rfl, h15, y15⟩ := fits_cons y14
  obtain ⟨a16, r16, rfl, h16, y16⟩ := fits_cons y15
  obtain ⟨a17, r17, rfl, h17, y17⟩ := fits_cons y16
  obtain ⟨a18, r18, rfl, h18, y18⟩ := fits_cons y17
  obtain ⟨a19, r19, rfl, h19, y19⟩ := fits_cons y18
  obtain ⟨a20, r20, rfl, h20, y20⟩ := fits_cons y19
  obtain ⟨a21, r21, rfl, h21, y21⟩ := fits_cons y20
  obtain ⟨a22, r22, rfl, h22, y22⟩ := fits_cons y21
  obtain ⟨a23, r23, rfl, h23, y23⟩ := fits_cons y22
  obtain ⟨a24, r24, rfl, h24, y24⟩ := fits_cons y23
  obtain ⟨a25, r25, rfl, h25, y25⟩ := fits_cons y24
  obtain ⟨a26, r26, rfl, h26, y26⟩ := fits_cons y25
  obtain ⟨a27, r27, rfl, h27, y27⟩ := fits_cons y26
  obtain ⟨a28, r28, rfl, h28, y28⟩ := fits_cons y27
  obtain ⟨a29, r29, rfl, h29, y29⟩ := fits_cons y28
  obtain ⟨a30, r30, rfl, h30, y30⟩ := fits_cons y29
  obtain ⟨a31, r31, rfl, h31, y31⟩ := fits_cons y30
  obtain ⟨a32, r32, rfl, h32, y32⟩ := fits_cons y31
  obtain ⟨a33, r33, rfl, h33, y33⟩ := fits_cons y32
  obtain ⟨a34, r34, rfl, h34, y34⟩ := fits_cons y33
  obtain ⟨a35, r35, rfl, h35, y35⟩ := fits_cons y34
  obtain ⟨a36, r36, rfl, h36, y36⟩ := fits_cons y35
  obtain ⟨a37, r37, rfl, h37, y37⟩ := fits_cons y36
  obtain ⟨a38, r38, rfl, h38, y38⟩ := fits_cons y37
  obtain rfl := fits_nil y38
  clear hx y0 y1 y2 y3 y4 y5 y6 y7 y8 y9 y10 y11 y12 y13 y14 y15 y16 y17 y18 y19 y20 y21 y22 y23 y24 y25 y26 y27 y28 y29 y30 y31 y32 y33 y34 y35 y36 y37 y38
  refine outs_one ?_
  show fnOf T18 es6 0 [a0, a1, a2, a3, a4, a5, a6, a7, a8, a9, a10, a11, a12, a13, a14, a15, a16, a17, a18, a19, a20, a21, a22, a23, a24, a25, a26, a27, a28, a29, a30, a31, a32, a33, a34, a35, a36, a37, a38] = 1
  obtain ⟨A, eA⟩ : ∃ A : Nat → Int, A = fun j => fnOf T28 es13 j [a0, a1, a2, a3, a4, a5, a6, a7, a8, a9, a10, a11, a12] := ⟨_, rfl⟩
  have mA := made_rl (show fits smallK [a0, a1, a2, a3, a4, a5, a6, a7, a8, a9, a10, a11, a12] from ⟨h0, h1, h2, h3, h4, h5, h6, h7, h8, h9, h10, h11, h12, trivial⟩)
  have rA : Rl A := by rw [eA]; exact mA.1
  have bA : K.norm .b (A 12) = A 12 := by rw [eA]; exact mA.2
  have FA : ∀ j, T18.F 13 j [a0, a1, a2, a3, a4, a5, a6, a7, a8, a9, a10, a11, a12] = A j := fun j => by rw [eA]; rfl
  have NA := rA.i.nrm
  clear mA eA
  obtain ⟨B, eB⟩ : ∃ B : Nat → Int, B = fun j => fnOf T28 es13 j [a13, a14, a15, a16, a17, a18, a19, a20, a21, a22, a23, a24, a25] := ⟨_, rfl⟩
  have mB := made_rl (show fits smallK [a13, a14, a15, a16, a17, a18, a19, a20, a21, a22, a23, a24, a25] from ⟨h13, h14, h15, h16, h17, h18, h19, h20, h21, h22, h23, h24, h25, trivial⟩)
  have rB : Rl B := by rw [eB]; exact mB.1
  have bB : K.norm .b (B 12) = B 12 := by rw [eB]; exact mB.2
  have FB : ∀ j, T18.F 13 j [a13, a14, a15, a16, a17, a18, a19, a20, a21, a22, a23, a24, a25] = B j := fun j => by rw [eB]; rfl
  have NB := rB.i.nrm
  clear mB eB
  have gP := pkt_good (show fits smallK [a26, a27, a28, a29, a30, a31, a32, a33, a34, a35, a36, a37, a38] from ⟨h26, h27, h28, h29, h30, h31, h32, h33, h34, h35, h36, h37, h38, trivial⟩)
  obtain ⟨P, eP⟩ : ∃ P : Nat → Int, P = fun j => fnOf T13 es16 j [a26, a27, a28, a29, a30, a31, a32, a33, a34, a35, a36, a37, a38] := ⟨_, rfl⟩
  replace gP : goodP (K.norm (.i .u8) (P 0)) (K.norm (.i .u8) (P 1)) = true := by rw [eP]; exact gP
  have FP : ∀ j, T18.F 16 j [a26, a27, a28, a29, a30, a31, a32, a33, a34, a35, a36, a37, a38] = P j := fun j => by rw [eP]; rfl
  clear eP
  have w15 : ∀ j, j < 14 → T18.F 15 j [A 0, A 1, A 2, A 3, A 4, A 5, A 6, A 7, A 8, A 9, A 10, A 11, A 12, B 0, B 1, B 2, B 3, B 4, B 5, B 6, B 7, B 8, B 9, B 10, B 11, B 12] = comO A B j := W15 A B
  have v15 : ∀ j, j < 14 → T18.F 15 j [B 0, B 1, B 2, B 3, B 4, B 5, B 6, B 7, B 8, B 9, B 10, B 11, B 12, A 0, A 1, A 2, A 3, A 4, A 5, A 6, A 7, A 8, A 9, A 10, A 11, A 12] = comO B A j := W15 B A
  simp only [es6, c6x0, c6x1, c6x2, c6x3, c6x4, c6x5, c6x6, c6x7, c6x8, c6x9, c6x10, c6x11, fnOf, E.den, E.denL, binI, dvI, shI, cmpB, List.getD_cons_zero, List.getD_cons_succ, i2b_b2i, norm_b2i, FA, FB, FP, h0, h1, h2, h3, h4, h5, h6, h7, h8, h9, h10, h11, h12, h13, h14, h15, h16, h17, h18, h19, h20, h21, h22, h23, h24, h25, h26, h27, h28, h29, h30, h31, h32, h33, h34, h35, h36, h37, h38, NA.n0, NA.n1, NA.n2, NA.n3, NA.n4, NA.n5, NA.n6, NA.n7, NA.n8, NA.n9, NA.n10, NA.n11, NB.n0, NB.n1, NB.n2, NB.n3, NB.n4, NB.n5, NB.n6, NB.n7, NB.n8, NB.n9, NB.n10, NB.n11, bA, bB]
  simp only [W18 A, W18 B, i2b_b2i, norm_b2i, b2i_beq, rA.right, rB.right, gP, nz, w15 0 (by decide), w15 1 (by decide), w15 2 (by decide), w15 3 (by decide), w15 4 (by decide), w15 5 (by decide), w15 6 (by decide), w15 7 (by decide), w15 8 (by decide), w15 9 (by decide), w15 10 (by decide), w15 11 (by decide), w15 12 (by decide), w15 13 (by decide), v15 0 (by decide), v15 1 (by decide), v15 2 (by decide), v15 3 (by decide), v15 4 (by decide), v15 5 (by decide), v15 6 (by decide), v15 7 (by decide), v15 8 (by decide), v15 9 (by decide), v15 10 (by decide), v15 11 (by decide), v15 12 (by decide), v15 13 (by decide)]
  have k13 : ∀ X Y : Nat → Int, comO X Y 13 = comE X Y := fun _ _ => rfl
  have kj : ∀ (X Y : Nat → Int) j, j ≠ 13 → comO X Y j = comC X Y j := fun X Y j hj => by unfold comO; split <;> first | rfl | (exfalso; exact hj rfl)
  have sy := cmS_symm rA rB
  cases hc : cmS A B
  · rw [hc] at sy
    obtain ⟨q1, q2⟩ := com_no rA rB hc
    obtain ⟨z1, z2⟩ := com_no rB rA sy.symm
    have hno := none_meets (s := K.norm (.i .u8) (P 0)) (p := K.norm (.i .u8) (P 1)) (a := K.norm (.i .u32) (P 2)) (b := K.norm (.i .u32) (P 3)) (sp := K.norm (.i .u16) (P 4)) (dp := K.norm (.i .u16) (P 5)) (fl := K.norm (.i .u8) (P 7)) rA rB hc
    simp only [kj A B 0 (by decide), kj A B 1 (by decide), kj A B 2 (by decide), kj A B 3 (by decide), kj A B 4 (by decide), kj A B 5 (by decide), kj A B 6 (by decide), kj A B 7 (by decide), kj A B 8 (by decide), kj A B 9 (by decide), kj A B 10 (by decide), kj A B 11 (by decide), kj A B 12 (by decide), kj B A 0 (by decide), kj B A 1 (by decide), kj B A 2 (by decide), kj B A 3 (by decide), kj B A 4 (by decide), kj B A 5 (by decide), kj B A 6 (by decide), kj B A 7 (by decide), kj B A 8 (by decide), kj B A 9 (by decide), kj B A 10 (by decide), kj B A 11 (by decide), kj B A 12 (by decide), k13, q1, q2, z1, z2, nz, Bool.true_and, hno]
    rfl
  · rw [hc] at sy
    have cm := (cm_iff rA rB).1 hc
    obtain ⟨q1, q2⟩ := com_rl rA rB hc
    obtain ⟨z1, z2⟩ := com_rl rB rA sy.symm
    have cr := cmn_rl rA rB cm
    have c := cr.i.nrm
    have eq := cmn_symm rA rB cm
    obtain ⟨s0, s1, s2, s3, s4, s5, s7⟩ := pk_norm (leastF_in cr.i)
    have w19 : ∀ j, j < 21 → T18.F 19 j [cmnF A B 0, cmnF A B 1, cmnF A B 2, cmnF A B 3, cmnF A B 4, cmnF A B 5, cmnF A B 6, cmnF A B 7, cmnF A B 8, cmnF A B 9, cmnF A B 10, cmnF A B 11, cmnF A B 12] = samO (cmnF A B) j := W19 (cmnF A B)
    have z := fun j (hj : j ≠ 20) => samO_right cr.right hj
    have z20 : samO (cmnF A B) 20 = 0 := by unfold samO; rw [cr.right]; rfl
    have gl : goodP (packF (leastF (cmnF A B)) 0) (packF (leastF (cmnF A B)) 1) = true := (least_vals cr.i cr.r).good
    have ml : meetsS (cmnF A B) (packF (leastF (cmnF A B)) 0) (packF (leastF (cmnF A B)) 1) (packF (leastF (cmnF A B)) 2) (packF (leastF (cmnF A B)) 3) (packF (leastF (cmnF A B)) 4) (packF (leastF (cmnF A B)) 5) (packF (leastF (cmnF A B)) 7) = true := sample_meets cr.i cr.r
    rw [cmn_meets rA rB cm, Bool.and_eq_true] at ml
    have mm := cmn_meets (s := K.norm (.i .u8) (P 0)) (p := K.norm (.i .u8) (P 1)) (a := K.norm (.i .u32) (P 2)) (b := K.norm (.i .u32) (P 3)) (sp := K.norm (.i .u16) (P 4)) (dp := K.norm (.i .u16) (P 5)) (fl := K.norm (.i .u8) (P 7)) rA rB cm
    simp only [kj A B 0 (by decide), kj A B 1 (by decide), kj A B 2 (by decide), kj A B 3 (by decide), kj A B 4 (by decide), kj A B 5 (by decide), kj A B 6 (by decide), kj A B 7 (by decide), kj A B 8 (by decide), kj A B 9 (by decide), kj A B 10 (by decide), kj A B 11 (by decide), kj A B 12 (by decide), kj B A 0 (by decide), kj B A 1 (by decide), kj B A 2 (by decide), kj B A 3 (by decide), kj B A 4 (by decide), kj B A 5 (by decide), kj B A 6 (by decide), kj B A 7 (by decide), kj B A 8 (by decide), kj B A 9 (by decide), kj B A 10 (by decide), kj B A 11 (by decide), kj B A 12 (by decide), k13, q1, q2, z1, z2,
      eq 0 (by decide), eq 1 (by decide), eq 2 (by decide), eq 3 (by decide), eq 4 (by decide), eq 5 (by decide), eq 6 (by decide), eq 7 (by decide), eq 8 (by decide), eq 9 (by decide), eq 10 (by decide), eq 11 (by decide), c.n0, c.n1, c.n2, c.n3, c.n4, c.n5, c.n6, c.n7, c.n8, c.n9, c.n10, c.n11, show K.norm .b (cmnF A B 12) = cmnF A B 12 from bA]
    simp only [W17 (cmnF A B), W18 (cmnF A B), w19 0 (by decide), w19 1 (by decide), w19 2 (by decide), w19 3 (by decide), w19 4 (by decide), w19 5 (by decide), w19 6 (by decide), w19 7 (by decide), w19 8 (by decide), w19 9 (by decide), w19 10 (by decide), w19 11 (by decide), w19 12 (by decide), w19 13 (by decide), w19 14 (by decide), w19 15 (by decide), w19 16 (by decide), w19 17 (by decide), w19 18 (by decide), w19 19 (by decide), w19 20 (by decide), z 0 (by decide), z 1 (by decide), z 2 (by decide), z 3 (by decide), z 4 (by decide), z 5 (by decide), z 7 (by decide), z20, s0, s1, s2, s3, s4, s5, s7, W18 A, W18 B, rA.right, rB.right, cr.right, gP, gl, ml.1, ml.2, mm, i2b_b2i, norm_b2i, b2i_beq, nz, beq_self_eq_true, bne_self_eq_false, Bool.not_true, Bool.not_false, Bool.or_self, Bool.or_false, Bool.false_or, Bool.and_self, Bool.true_and, Bool.and_true, Bool.false_and, Bool.and_false, Bool.true_or, Bool.or_true, cond_true, cond_false]
    simp only [show cmnF A B 12 = A 12 from rfl, beq_self_eq_true, bne_self_eq_false, Bool.not_true, Bool.not_false, Bool.or_self, Bool.or_false, Bool.false_or, Bool.and_self, Bool.true_and, Bool.and_true, Bool.false_and, Bool.and_false, Bool.true_or, Bool.or_true, cond_true, cond_false]
    rfl
theorem ok6 : EntryOK Tryd.prog G0 en6 := ok6'.congr lem6
def T6 : Tabs := en6 :: T18
theorem tok6 : TabsOK Tryd.prog G0 T6 := .cons ok6 tok18

end Go.Proofs.YtbolcnlenmphhaaDoor
