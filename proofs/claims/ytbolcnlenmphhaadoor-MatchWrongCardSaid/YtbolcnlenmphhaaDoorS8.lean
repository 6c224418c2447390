/- Layer 26: summaries of the functions, eighth part: the rules and the packets of a small net. Printed by a program from the evaluator's own output; the lemmas by hand. -/
import Derived.Test.YtbolcnlenmphhaaDoorS7
import Derived.Test.YtbolcnlenmphhaaDoorFo
set_option linter.unusedVariables false
set_option linter.unusedSimpArgs false
namespace Go.Proofs.YtbolcnlenmphhaaDoor
open Go Go.RowKit Ev

def es27 : List E :=
  [(.ite (.or (.cmp .eql (.dv .rem .u8 (.var (.i .u8) 1) 8) (.lit (.i .u8) 0)) (.cmp .eql (.dv .rem .u8 (.var (.i .u8) 1) 8) (.lit (.i .u8) 1))) (.ite (.cmp .eql (.dv .rem .u8 (.var (.i .u8) 1) 8) (.lit (.i .u8) 0)) (.lit (.i .u32) 0) (.lit
    (.i .u32) 167772160)) (.bin .andNot .u32 (.bin .or .u32 (.lit (.i .u32) 167772160) (.conv .u32 (.dv .rem .u8 (.var (.i .u8) 0) 64))) (.bin .sub .u32 (.sh .shl .u32 (.lit (.i .u32) 1) (.bin .sub .u8 (.lit (.i .u8) 32) (.bin .sub .u8 (.bin
    .add .u8 (.lit (.i .u8) 26) (.dv .rem .u8 (.var (.i .u8) 1) 8)) (.lit (.i .u8) 1)))) (.lit (.i .u32) 1)))), (.ite (.or (.cmp .eql (.dv .rem .u8 (.var (.i .u8) 1) 8) (.lit (.i .u8) 0)) (.cmp .eql (.dv .rem .u8 (.var (.i .u8) 1) 8) (.lit (.i
    .u8) 1))) (.ite (.cmp .eql (.dv .rem .u8 (.var (.i .u8) 1) 8) (.lit (.i .u8) 0)) (.lit (.i .u8) 0) (.lit (.i .u8) 8)) (.bin .sub .u8 (.bin .add .u8 (.lit (.i .u8) 26) (.dv .rem .u8 (.var (.i .u8) 1) 8)) (.lit (.i .u8) 1)))]
def en27 : Entry := ⟨27, 27, [.s (.i .u8), .s (.i .u8)], .one (.a [.i .u32, .i .u8]), fnOf T8 es27⟩
theorem ok27 : EntryOK Tryd.prog G0 en27 := evE_ok (N := 200) (n := 20) (by kernel_rfl) tok8 (by kernel_rfl)
def T27 : Tabs := en27 :: T8
theorem tok27 : TabsOK Tryd.prog G0 T27 := .cons ok27 tok8

def es28 : List E :=
  [(.ite (.cmp .gtr (.var (.i .u8) 0) (.lit (.i .u8) 200)) (.lit (.i .u16) 0) (.conv .u16 (.dv .rem .u8 (.var (.i .u8) 0) 8))), (.ite (.cmp .gtr (.var (.i .u8) 0) (.lit (.i .u8) 200)) (.lit (.i .u16) 65535) (.bin .add .u16 (.conv .u16 (.dv
    .rem .u8 (.var (.i .u8) 0) 8)) (.conv .u16 (.dv .rem .u8 (.var (.i .u8) 1) 4))))]
def en28 : Entry := ⟨28, 28, [.s (.i .u8), .s (.i .u8)], .one (.a [.i .u16, .i .u16]), fnOf T27 es28⟩
theorem ok28 : EntryOK Tryd.prog G0 en28 := evE_ok (N := 200) (n := 20) (by kernel_rfl) tok27 (by kernel_rfl)
def T28 : Tabs := en28 :: T27
theorem tok28 : TabsOK Tryd.prog G0 T28 := .cons ok28 tok27

def c13x0 : E :=
  (.cmp .eql (.dv .rem .u8 (.var (.i .u8) 1) 5) (.lit (.i .i64) 0))
def c13x1 : E :=
  (.cmp .eql (.dv .rem .u8 (.var (.i .u8) 1) 5) (.lit (.i .i64) 1))
def c13x2 : E :=
  (.cmp .eql (.dv .rem .u8 (.var (.i .u8) 1) 5) (.lit (.i .i64) 2))
def c13x3 : E :=
  (.cmp .eql (.dv .rem .u8 (.var (.i .u8) 1) 5) (.lit (.i .i64) 3))
def c13x4 : E :=
  (.ite c13x2 (.lit (.i .u8) 6) (.ite c13x3 (.lit (.i .u8) 17) (.lit (.i .u8) 6)))
def c13x5 : E :=
  (.ite c13x0 (.lit (.i .u8) 0) (.ite c13x1 (.lit (.i .u8) 1) c13x4))
def c13x6 : E :=
  (.or (.cmp .eql c13x5 (.lit (.i .u8) 6)) (.cmp .eql c13x5 (.lit (.i .u8) 17)))
def es13 : List E :=
  [(.dv .rem .u8 (.var (.i .u8) 0) 3), c13x5, (.ite (.cmp .eql c13x5 (.lit (.i .u8) 6)) (.dv .rem .u8 (.var (.i .u8) 2) 64) (.lit (.i .u8) 0)), (.ite (.cmp .eql c13x5 (.lit (.i .u8) 6)) (.bin .and .u8 (.var (.i .u8) 3) (.dv .rem .u8 (.var (.i
    .u8) 2) 64)) (.lit (.i .u8) 0)), (.app (.i .u32) 27 0 [(.var (.i .u8) 4), (.var (.i .u8) 5)]), (.app (.i .u8) 27 1 [(.var (.i .u8) 4), (.var (.i .u8) 5)]), (.app (.i .u32) 27 0 [(.var (.i .u8) 6), (.var (.i .u8) 7)]), (.app (.i .u8) 27 1
    [(.var (.i .u8) 6), (.var (.i .u8) 7)]), (.ite c13x6 (.app (.i .u16) 28 0 [(.var (.i .u8) 8), (.var (.i .u8) 9)]) (.lit (.i .u16) 0)), (.ite c13x6 (.app (.i .u16) 28 1 [(.var (.i .u8) 8), (.var (.i .u8) 9)]) (.lit (.i .u16) 65535)), (.ite
    c13x6 (.app (.i .u16) 28 0 [(.var (.i .u8) 10), (.var (.i .u8) 11)]) (.lit (.i .u16) 0)), (.ite c13x6 (.app (.i .u16) 28 1 [(.var (.i .u8) 10), (.var (.i .u8) 11)]) (.lit (.i .u16) 65535)), (.var .b 12)]
def en13 : Entry := ⟨13, 13, [.a smallK], .one (.a ruleK), fnOf T28 es13⟩
theorem ok13 : EntryOK Tryd.prog G0 en13 := evE_ok (N := 200) (n := 20) (by kernel_rfl) tok28 (by kernel_rfl)
def T13 : Tabs := en13 :: T28
theorem tok13 : TabsOK Tryd.prog G0 T13 := .cons ok13 tok28

def c16x0 : E :=
  (.cmp .eql (.dv .rem .u8 (.var (.i .u8) 1) 3) (.lit (.i .i64) 0))
def c16x1 : E :=
  (.cmp .eql (.dv .rem .u8 (.var (.i .u8) 1) 3) (.lit (.i .i64) 1))
def c16x2 : E :=
  (.ite c16x0 (.lit (.i .u8) 1) (.ite c16x1 (.lit (.i .u8) 6) (.lit (.i .u8) 17)))
def es16 : List E :=
  [(.dv .rem .u8 (.var (.i .u8) 0) 2), c16x2, (.bin .or .u32 (.lit (.i .u32) 167772160) (.conv .u32 (.dv .rem .u8 (.var (.i .u8) 4) 64))), (.bin .or .u32 (.lit (.i .u32) 167772160) (.conv .u32 (.dv .rem .u8 (.var (.i .u8) 6) 64))), (.conv
    .u16 (.dv .rem .u8 (.var (.i .u8) 8) 12)), (.conv .u16 (.dv .rem .u8 (.var (.i .u8) 9) 12)), (.lit (.i .u8) 0), (.ite (.cmp .eql c16x2 (.lit (.i .u8) 6)) (.dv .rem .u8 (.var (.i .u8) 2) 64) (.lit (.i .u8) 0)), (.lit (.i .u8) 0), (.lit (.i
    .u8) 0), (.lit (.i .u32) 0), (.lit (.i .u32) 0), (.lit (.i .i64) 0), (.lit (.i .i64) 0), (.lit (.i .u8) 0), (.lit (.i .u32) 0), (.lit (.i .u32) 0), (.lit (.i .u16) 0), (.lit (.i .u16) 0), (.lit (.i .u8) 0)]
def en16 : Entry := ⟨16, 16, [.a smallK], .tup [.s (.i .u8), .a factsK], fnOf T13 es16⟩
theorem ok16 : EntryOK Tryd.prog G0 en16 := evE_ok (N := 200) (n := 20) (by kernel_rfl) tok13 (by kernel_rfl)
def T16 : Tabs := en16 :: T13
theorem tok16 : TabsOK Tryd.prog G0 T16 := .cons ok16 tok13

def c18x0 : List E :=
  [(.var (.i .u8) 0), (.var (.i .u8) 1), (.var (.i .u8) 2), (.var (.i .u8) 3), (.var (.i .u32) 4), (.var (.i .u8) 5), (.var (.i .u32) 6), (.var (.i .u8) 7), (.var (.i .u16) 8), (.var (.i .u16) 9), (.var (.i .u16) 10), (.var (.i .u16) 11),
    (.var .b 12), (.var (.i .u8) 13), (.var (.i .u8) 14), (.var (.i .u32) 15), (.var (.i .u32) 16), (.var (.i .u16) 17), (.var (.i .u16) 18), (.var (.i .u8) 19), (.var (.i .u8) 20), (.var (.i .u8) 21), (.var (.i .u8) 22), (.var (.i .u32) 23),
    (.var (.i .u32) 24), (.var (.i .i64) 25), (.var (.i .i64) 26), (.var (.i .u8) 27), (.var (.i .u32) 28), (.var (.i .u32) 29), (.var (.i .u16) 30), (.var (.i .u16) 31), (.var (.i .u8) 32)]
def es18 : List E :=
  [(.and (.app .b 24 0 c18x0) (.cmp .eql (.app (.i .i64) 24 1 c18x0) (.lit (.i .i64) 0)))]
def en18' : Entry := ⟨18, 18, [.a ruleK, .s (.i .u8), .a factsK], .one (.s (.b)), fnOf T16 es18⟩
theorem ok18' : EntryOK Tryd.prog G0 en18' := evE_ok (N := 200) (n := 20) (by kernel_rfl) tok16 (by kernel_rfl)
def en18 : Entry := ⟨18, 18, [.a ruleK, .s (.i .u8), .a factsK], .one (.s (.b)), fun _ xs => b2i (matF fun i => xs.getD i 0)⟩
theorem lem18 : ∀ xs, fits (allKs en18'.ps) xs → outsE en18'.fn xs 0 en18'.rs.ks = outsE en18.fn xs 0 en18.rs.ks := by
  intro xs hx
  replace hx : fits [.i .u8, .i .u8, .i .u8, .i .u8, .i .u32, .i .u8, .i .u32, .i .u8, .i .u16, .i .u16, .i .u16, .i .u16, .b, .i .u8, .i .u8, .i .u32, .i .u32, .i .u16, .i .u16, .i .u8, .i .u8, .i .u8, .i .u8, .i .u32, .i .u32, .i .i64, .i .i64, .i .u8, .i .u32, .i .u32, .i .u16, .i .u16, .i .u8] xs := hx
  obtain ⟨a0, r0, rfl, h0, y0⟩ := fits_cons hx
  obtain ⟨a1, r1, rfl, h1, y1⟩ := fits_cons y0
  obtain ⟨a2, r2, rfl, h2, y2⟩ := fits_cons y1
  obtain ⟨a3, r3, rfl, h3, y3⟩ := fits_cons y2
  obtain ⟨a4, r4, rfl, h4, y4⟩ := fits_cons y3
  obtain ⟨a5, r5, rfl, h5, y5⟩ := fits_cons y4
  obtain ⟨a6, r6, rfl, h6, y6⟩ := fits_cons y5
  obtain ⟨a7, r7, rfl, h7, y7⟩ := fits_cons y6
  obtain ⟨a8, r8, rfl, h8, y8⟩ := fits_cons y7
  obtain ⟨a9, r9, rfl, h9, y9⟩ := fits_cons y8
  obtain ⟨a10, r10, rfl, h10, y10⟩ := fits_cons y9
  obtain ⟨a11, r11, rfl, h11, y11⟩ := fits_cons y10
  obtain ⟨a12, r12, rfl, h12, y12⟩ := fits_cons y11
  obtain ⟨a13, r13, rfl, h13, y13⟩ := fits_cons y12
  obtain ⟨a14, r14, rfl, h14, y14⟩ := fits_cons y13
  obtain ⟨a15, r15, rfl, h15, y15⟩ := fits_cons y14
  obtain ⟨a16, r16, rfl, h16, y16⟩ := fits_cons y15
  obtain ⟨a17, r17, rfl, h17, y17⟩ := fits_cons y16
  obtain ⟨a18, r18, rfl, h18, y18⟩ := fits_cons y17
  obtain ⟨a19, r19, rfl, h19, y19⟩ := fits_cons y18
  obtain ⟨a20, r20, rfl, h20, y20⟩ := fits_cons y19
  obtain ⟨a21, r21, rfl, h21, y21⟩ := fits_cons y20
  obtain ⟨a22, r22, rfl, h22, y22⟩ := fits_cons y21
  obtain ⟨a23, r23, rfl, h23, y23⟩ := fits_cons y22
  obtain ⟨a24, r24, rfl, h24, y24⟩ := fits_cons y23
  obtain ⟨a25, r25, rfl, h25, y25⟩ := fits_cons y24
  obtain ⟨a26, r26, rfl, h26, y26⟩ := fits_cons y25
  obtain ⟨a27, r27, rfl, h27, y27⟩ := fits_cons y26
  obtain ⟨a28, r28, rfl, h28, y28⟩ := fits_cons y27
  obtain ⟨a29, r29, rfl, h29, y29⟩ := fits_cons y28
  obtain ⟨a30, r30, rfl, h30, y30⟩ := fits_cons y29
  obtain ⟨a31, r31, rfl, h31, y31⟩ := fits_cons y30
  obtain ⟨a32, r32, rfl, h32, y32⟩ := fits_cons y31
  obtain rfl := fits_nil y32
  clear hx y0 y1 y2 y3 y4 y5 y6 y7 y8 y9 y10 y11 y12 y13 y14 y15 y16 y17 y18 y19 y20 y21 y22 y23 y24 y25 y26 y27 y28 y29 y30 y31 y32
  refine outs_one ?_
  show fnOf T16 es18 0 [a0, a1, a2, a3, a4, a5, a6, a7, a8, a9, a10, a11, a12, a13, a14, a15, a16, a17, a18, a19, a20, a21, a22, a23, a24, a25, a26, a27, a28, a29, a30, a31, a32] = b2i (matF fun i => [a0, a1, a2, a3, a4, a5, a6, a7, a8, a9, a10, a11, a12, a13, a14, a15, a16, a17, a18, a19, a20, a21, a22, a23, a24, a25, a26, a27, a28, a29, a30, a31, a32].getD i 0)
  have F24 : ∀ xs, T16.F 24 0 xs = b2i (matF fun i => xs.getD i 0) := fun _ => rfl
  have G24 : ∀ xs, T16.F 24 1 xs = matE fun i => xs.getD i 0 := fun _ => rfl
  simp only [es18, c18x0, fnOf, E.den, E.denL, binI, dvI, shI, cmpB, List.getD_cons_zero, List.getD_cons_succ, i2b_b2i, norm_b2i, F24, G24, h0, h1, h2, h3, h4, h5, h6, h7, h8, h9, h10, h11, h12, h13, h14, h15, h16, h17, h18, h19, h20, h21, h22, h23, h24, h25, h26, h27, h28, h29, h30, h31, h32]
  have hE : ∀ x : Nat → Int, K.norm (.i .i64) (matE x) = matE x := fun x => by
    unfold matE
    cases rightS x <;> cases goodP (x 13) (x 14) <;> rfl
  rw [hE, nz, matE_of]
theorem ok18 : EntryOK Tryd.prog G0 en18 := ok18'.congr lem18
def T18 : Tabs := en18 :: T16
theorem tok18 : TabsOK Tryd.prog G0 T18 := .cons ok18 tok16


theorem tm8 {a n : Int} (h : 0 ≤ a ∧ a < 256) (hn : 0 < n) (hn' : n ≤ 256) : 0 ≤ a.tmod n ∧ a.tmod n < n ∧ a.tmod n < 256 := by
  rw [Int.tmod_eq_emod_of_nonneg h.1]
  have h1 := Int.emod_nonneg a (show n ≠ 0 by omega)
  have h2 := Int.emod_lt_of_pos a hn
  omega
/-- A prefix of the small net. -/
def okP (r k : Nat) : Bool := pR (fnOf T8 es27 0 [r, k]) (fnOf T8 es27 1 [r, k]) && decide (0 ≤ fnOf T8 es27 0 [r, k]) && decide (fnOf T8 es27 0 [r, k] < 4294967296) && decide (0 ≤ fnOf T8 es27 1 [r, k]) && decide (fnOf T8 es27 1 [r, k] < 256)
theorem okP_all : ((List.range 8).all fun k => (List.range 64).all fun r => okP r k) = true := by decide +kernel
theorem small_pfx {a n : Int} (ha : K.norm (.i .u8) a = a) (hn : K.norm (.i .u8) n = n) : Pfx (fnOf T8 es27 0 [a, n]) (fnOf T8 es27 1 [a, n]) := by
  have q0 := rng8 ha
  have q1 := rng8 hn
  obtain ⟨r0, r1, r2⟩ := tm8 q0 (n := 64) (by omega) (by omega)
  obtain ⟨k0, k1, k2⟩ := tm8 q1 (n := 8) (by omega) (by omega)
  obtain ⟨r, hr⟩ := Int.eq_ofNat_of_zero_le r0
  obtain ⟨k, hk⟩ := Int.eq_ofNat_of_zero_le k0
  have e : ∀ j, j < 2 → fnOf T8 es27 j [a, n] = fnOf T8 es27 j [(r : Int), (k : Int)] := by
    have nr : K.norm (.i .u8) (r : Int) = r := by show IntKind.wrap .u8 _ = _; rw [wrap8]; omega
    have nk : K.norm (.i .u8) (k : Int) = k := by show IntKind.wrap .u8 _ = _; rw [wrap8]; omega
    have mr : (r : Int).tmod 64 = r := by rw [Int.tmod_eq_emod_of_nonneg (by omega)]; omega
    have mk : (k : Int).tmod 8 = k := by rw [Int.tmod_eq_emod_of_nonneg (by omega)]; omega
    intro j hj
    match j, hj with
    | 0, _ =>
      show fnOf T8 es27 0 [a, n] = fnOf T8 es27 0 [(r : Int), (k : Int)]
      simp only [es27, fnOf, E.den, E.denL, binI, dvI, shI, cmpB, List.getD_cons_zero, List.getD_cons_succ, i2b_b2i, norm_b2i, ha, hn, nr, nk, hr, hk, mr, mk]
    | 1, _ =>
      show fnOf T8 es27 1 [a, n] = fnOf T8 es27 1 [(r : Int), (k : Int)]
      simp only [es27, fnOf, E.den, E.denL, binI, dvI, shI, cmpB, List.getD_cons_zero, List.getD_cons_succ, i2b_b2i, norm_b2i, ha, hn, nr, nk, hr, hk, mr, mk]
  have h := List.all_eq_true.1 (List.all_eq_true.1 okP_all k (List.mem_range.2 (by omega))) r (List.mem_range.2 (by omega))
  unfold okP at h
  simp only [Bool.and_eq_true, decide_eq_true_eq] at h
  rw [e 0 (by omega), e 1 (by omega)]
  exact ⟨⟨h.1.1.1.2, h.1.1.2⟩, ⟨h.1.2, h.2⟩, h.1.1.1.1⟩
theorem small_rng {a n : Int} (ha : K.norm (.i .u8) a = a) (hn : K.norm (.i .u8) n = n) : 0 ≤ fnOf T27 es28 0 [a, n] ∧ fnOf T27 es28 0 [a, n] ≤ fnOf T27 es28 1 [a, n] ∧ fnOf T27 es28 1 [a, n] < 65536 := by
  have q0 := rng8 ha
  have q1 := rng8 hn
  have r1 := tm8 q0 (n := 8) (by omega) (by omega)
  have r2 := tm8 q1 (n := 4) (by omega) (by omega)
  simp only [es28, fnOf, E.den, E.denL, binI, dvI, shI, cmpB, List.getD_cons_zero, List.getD_cons_succ, i2b_b2i, norm_b2i, ha, hn]
  simp only [K.norm, wrap8, wrap16, Int.reduceMod]
  by_cases h : a > 200
  · rw [decide_eq_true h]
    simp
  · rw [decide_eq_false h]
    simp only [cond_false]
    omega

/-- A rule of the small net is right. -/
theorem made_rl {a0 a1 a2 a3 a4 a5 a6 a7 a8 a9 a10 a11 a12 : Int} (h : fits smallK [a0, a1, a2, a3, a4, a5, a6, a7, a8, a9, a10, a11, a12]) : Rl (fun j => fnOf T28 es13 j [a0, a1, a2, a3, a4, a5, a6, a7, a8, a9, a10, a11, a12]) ∧ K.norm .b (fnOf T28 es13 12 [a0, a1, a2, a3, a4, a5, a6, a7, a8, a9, a10, a11, a12]) = fnOf T28 es13 12 [a0, a1, a2, a3, a4, a5, a6, a7, a8, a9, a10, a11, a12] := by
  replace h : fits [.i .u8, .i .u8, .i .u8, .i .u8, .i .u8, .i .u8, .i .u8, .i .u8, .i .u8, .i .u8, .i .u8, .i .u8, .b] [a0, a1, a2, a3, a4, a5, a6, a7, a8, a9, a10, a11, a12] := h
  obtain ⟨h0, h1, h2, h3, h4, h5, h6, h7, h8, h9, h10, h11, h12, _⟩ := h
  have q0 := rng8 h0
  have q1 := rng8 h1
  have q2 := rng8 h2
  have q3 := rng8 h3
  obtain ⟨u0, u1, u2⟩ := tm8 q0 (n := 3) (by omega) (by omega)
  obtain ⟨v0, v1, v2⟩ := tm8 q1 (n := 5) (by omega) (by omega)
  obtain ⟨w0, w1, w2⟩ := tm8 q2 (n := 64) (by omega) (by omega)
  have F27 : ∀ j xs, T28.F 27 j xs = fnOf T8 es27 j xs := fun _ _ => rfl
  have F28 : ∀ j xs, T28.F 28 j xs = fnOf T27 es28 j xs := fun _ _ => rfl
  obtain ⟨A, eA⟩ : ∃ A : Nat → Int, A = fun j => fnOf T28 es13 j [a0, a1, a2, a3, a4, a5, a6, a7, a8, a9, a10, a11, a12] := ⟨_, rfl⟩
  have e0 : A 0 = a0.tmod 3 := by rw [eA]; simp only [es13, fnOf, E.den, E.denL, binI, dvI, shI, cmpB, List.getD_cons_zero, List.getD_cons_succ, i2b_b2i, norm_b2i, h0, h1, h2, h3, h4, h5, h6, h7, h8, h9, h10, h11, h12]
  have e1 : A 1 = 0 ∨ A 1 = 1 ∨ A 1 = 6 ∨ A 1 = 17 := by
    rw [eA]
    simp only [es13, c13x0, c13x1, c13x2, c13x3, c13x4, c13x5, c13x6, fnOf, E.den, E.denL, binI, dvI, shI, cmpB, List.getD_cons_zero, List.getD_cons_succ, i2b_b2i, norm_b2i, h0, h1, h2, h3, h4, h5, h6, h7, h8, h9, h10, h11, h12]
    cases a1.tmod 5 == K.norm (.i .i64) 0
    · cases a1.tmod 5 == K.norm (.i .i64) 1
      · cases a1.tmod 5 == K.norm (.i .i64) 2
        · cases a1.tmod 5 == K.norm (.i .i64) 3
          · exact .inr (.inr (.inl rfl))
          · exact .inr (.inr (.inr rfl))
        · exact .inr (.inr (.inl rfl))
      · exact .inr (.inl rfl)
    · exact .inl rfl
  have e2 : A 2 = bif A 1 == 6 then a2.tmod 64 else 0 := by rw [eA]; simp only [es13, fnOf, E.den, E.denL, binI, dvI, shI, cmpB, List.getD_cons_zero, List.getD_cons_succ, i2b_b2i, norm_b2i, h0, h1, h2, h3, h4, h5, h6, h7, h8, h9, h10, h11, h12]; rfl
  have e3 : A 3 = bif A 1 == 6 then bitsI .and .u8 a3 (a2.tmod 64) else 0 := by rw [eA]; simp only [es13, fnOf, E.den, E.denL, binI, dvI, shI, cmpB, List.getD_cons_zero, List.getD_cons_succ, i2b_b2i, norm_b2i, h0, h1, h2, h3, h4, h5, h6, h7, h8, h9, h10, h11, h12]; rfl
  have c6 : i2b (E.den T28.F (fun i => [a0, a1, a2, a3, a4, a5, a6, a7, a8, a9, a10, a11, a12].getD i 0) c13x6) = (A 1 == 6 || A 1 == 17) := by
    rw [eA]
    simp only [es13, c13x6, fnOf, E.den, E.denL, binI, dvI, shI, cmpB, List.getD_cons_zero, List.getD_cons_succ, i2b_b2i, norm_b2i, h0, h1, h2, h3, h4, h5, h6, h7, h8, h9, h10, h11, h12]
    rfl
  have p1 := small_pfx h4 h5
  have p2 := small_pfx h6 h7
  have e4 : A 4 = fnOf T8 es27 0 [a4, a5] := by
    rw [eA]
    show K.norm (.i .u32) (fnOf T8 es27 0 [K.norm (.i .u8) a4, K.norm (.i .u8) a5]) = _
    rw [h4, h5]
    exact nrm32 p1.lo
  have e5 : A 5 = fnOf T8 es27 1 [a4, a5] := by
    rw [eA]
    show K.norm (.i .u8) (fnOf T8 es27 1 [K.norm (.i .u8) a4, K.norm (.i .u8) a5]) = _
    rw [h4, h5]
    have := p1.n0
    show IntKind.wrap .u8 _ = _
    rw [wrap8]; omega
  have e6 : A 6 = fnOf T8 es27 0 [a6, a7] := by
    rw [eA]
    show K.norm (.i .u32) (fnOf T8 es27 0 [K.norm (.i .u8) a6, K.norm (.i .u8) a7]) = _
    rw [h6, h7]
    exact nrm32 p2.lo
  have e7 : A 7 = fnOf T8 es27 1 [a6, a7] := by
    rw [eA]
    show K.norm (.i .u8) (fnOf T8 es27 1 [K.norm (.i .u8) a6, K.norm (.i .u8) a7]) = _
    rw [h6, h7]
    have := p2.n0
    show IntKind.wrap .u8 _ = _
    rw [wrap8]; omega
  have s1 := small_rng h8 h9
  have s2 := small_rng h10 h11
  have n16 : ∀ z : Int, 0 ≤ z ∧ z < 65536 → K.norm (.i .u16) z = z := fun z hz => by show IntKind.wrap .u16 _ = _; rw [wrap16]; omega
  have e8 : A 8 = bif A 1 == 6 || A 1 == 17 then fnOf T27 es28 0 [a8, a9] else 0 := by
    rw [← c6, eA]
    show (bif i2b (E.den T28.F (fun i => [a0, a1, a2, a3, a4, a5, a6, a7, a8, a9, a10, a11, a12].getD i 0) c13x6) then K.norm (.i .u16) (fnOf T27 es28 0 [K.norm (.i .u8) a8, K.norm (.i .u8) a9]) else K.norm (.i .u16) 0) = _
    rw [h8, h9, n16 _ (by omega)]
    rfl
  have e9 : A 9 = bif A 1 == 6 || A 1 == 17 then fnOf T27 es28 1 [a8, a9] else 65535 := by
    rw [← c6, eA]
    show (bif i2b (E.den T28.F (fun i => [a0, a1, a2, a3, a4, a5, a6, a7, a8, a9, a10, a11, a12].getD i 0) c13x6) then K.norm (.i .u16) (fnOf T27 es28 1 [K.norm (.i .u8) a8, K.norm (.i .u8) a9]) else K.norm (.i .u16) 65535) = _
    rw [h8, h9, n16 _ (by omega)]
    rfl
  have e10 : A 10 = bif A 1 == 6 || A 1 == 17 then fnOf T27 es28 0 [a10, a11] else 0 := by
    rw [← c6, eA]
    show (bif i2b (E.den T28.F (fun i => [a0, a1, a2, a3, a4, a5, a6, a7, a8, a9, a10, a11, a12].getD i 0) c13x6) then K.norm (.i .u16) (fnOf T27 es28 0 [K.norm (.i .u8) a10, K.norm (.i .u8) a11]) else K.norm (.i .u16) 0) = _
    rw [h10, h11, n16 _ (by omega)]
    rfl
  have e11 : A 11 = bif A 1 == 6 || A 1 == 17 then fnOf T27 es28 1 [a10, a11] else 65535 := by
    rw [← c6, eA]
    show (bif i2b (E.den T28.F (fun i => [a0, a1, a2, a3, a4, a5, a6, a7, a8, a9, a10, a11, a12].getD i 0) c13x6) then K.norm (.i .u16) (fnOf T27 es28 1 [K.norm (.i .u8) a10, K.norm (.i .u8) a11]) else K.norm (.i .u16) 65535) = _
    rw [h10, h11, n16 _ (by omega)]
    rfl
  have e12 : K.norm .b (A 12) = A 12 := by
    rw [eA]
    show K.norm .b (K.norm .b a12) = K.norm .b a12
    exact K.norm_norm _ _
  rw [← eA]
  have hand := and8 a3 (a2.tmod 64) q3 ⟨w0, w2⟩
  have hle := @Nat.and_le_left a3.toNat (a2.tmod 64).toNat
  have i0 : RuleIn A := by
    refine ⟨by omega, by omega, ?_, ?_, by rw [e4]; exact p1.lo, by rw [e5]; exact p1.n0, by rw [e6]; exact p2.lo, by rw [e7]; exact p2.n0, ?_, ?_, ?_, ?_⟩
    · rw [e2]; cases A 1 == 6 <;> simp only [cond_true, cond_false] <;> omega
    · rw [e3, hand]; cases A 1 == 6 <;> simp only [cond_true, cond_false] <;> omega
    · rw [e8]; cases A 1 == 6 || A 1 == 17 <;> simp only [cond_true, cond_false] <;> omega
    · rw [e9]; cases A 1 == 6 || A 1 == 17 <;> simp only [cond_true, cond_false] <;> omega
    · rw [e10]; cases A 1 == 6 || A 1 == 17 <;> simp only [cond_true, cond_false] <;> omega
    · rw [e11]; cases A 1 == 6 || A 1 == 17 <;> simp only [cond_true, cond_false] <;> omega
  refine ⟨⟨i0, ⟨by omega, e1, by rw [e4, e5]; exact p1.ok, by rw [e6, e7]; exact p2.ok, ?_, ?_, ?_, ?_, ?_⟩⟩, by show K.norm .b (fnOf T28 es13 12 [a0, a1, a2, a3, a4, a5, a6, a7, a8, a9, a10, a11, a12]) = fnOf T28 es13 12 [a0, a1, a2, a3, a4, a5, a6, a7, a8, a9, a10, a11, a12]; rw [eA] at e12; exact e12⟩
  · rw [e8, e9]
    unfold rR
    cases A 1 == 6 || A 1 == 17
    · rfl
    · exact decide_eq_true s1.2.1
  · rw [e10, e11]
    unfold rR
    cases A 1 == 6 || A 1 == 17
    · rfl
    · exact decide_eq_true s2.2.1
  · rw [e2]; cases A 1 == 6 <;> simp only [cond_true, cond_false] <;> omega
  · rw [e2, e3]
    cases A 1 == 6
    · simp only [cond_false]; decide
    · simp only [cond_true]
      rw [sub8_iff _ _ ⟨w0, w2⟩, hand]
      intro i hi hb
      unfold bitB at hb ⊢
      rw [Int.toNat_natCast, Nat.testBit_and, Bool.and_eq_true] at hb
      exact hb.2
  · rw [e2]
    by_cases h6 : A 1 = 6
    · exact .inr h6
    · left; rw [beq_eq_false_iff_ne.2 h6]; rfl

end Go.Proofs.YtbolcnlenmphhaaDoor
