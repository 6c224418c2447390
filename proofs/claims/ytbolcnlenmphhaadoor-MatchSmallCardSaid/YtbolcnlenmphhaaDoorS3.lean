/- Layer 26: summaries of the functions, third part: the examples; MatchTells. Printed by a program from the evaluator's own output; the lemmas by hand. -/
import Derived.Test.YtbolcnlenmphhaaDoorS2
import Derived.Test.YtbolcnlenmphhaaDoorFw
set_option linter.unusedVariables false
set_option linter.unusedSimpArgs false
namespace Go.Proofs.YtbolcnlenmphhaaDoor
open Go Go.RowKit Ev

def es31 : List E :=
  [(.and (.and (.and (.cmp .leq (.var (.i .u32) 4) (.var (.i .u32) 0)) (.cmp .leq (.var (.i .u32) 1) (.var (.i .u32) 5))) (.cmp .eql (.bin .andNot .u32 (.var (.i .u32) 6) (.var (.i .u32) 2)) (.lit (.i .u32) 0))) (.cmp .eql (.bin .and .u32
    (.var (.i .u32) 3) (.var (.i .u32) 6)) (.var (.i .u32) 7)))]
def en31' : Entry := ⟨31, 31, [.a [.i .u32, .i .u32, .i .u32, .i .u32], .a [.i .u32, .i .u32, .i .u32, .i .u32]], .one (.s (.b)), fnOf T25 es31⟩
theorem ok31' : EntryOK Tryd.prog G0 en31' := evE_ok (N := 200) (n := 20) (by kernel_rfl) tok25 (by kernel_rfl)
def en31 : Entry := ⟨31, 31, [.a [.i .u32, .i .u32, .i .u32, .i .u32], .a [.i .u32, .i .u32, .i .u32, .i .u32]], .one (.s (.b)), fun _ xs => b2i (insB (xs.getD 0 0) (xs.getD 1 0) (xs.getD 2 0) (xs.getD 3 0) (xs.getD 4 0) (xs.getD 5 0) (xs.getD 6 0) (xs.getD 7 0))⟩
theorem lem31 : ∀ xs, fits (allKs en31'.ps) xs → outsE en31'.fn xs 0 en31'.rs.ks = outsE en31.fn xs 0 en31.rs.ks := by
  intro xs hx
  replace hx : fits [.i .u32, .i .u32, .i .u32, .i .u32, .i .u32, .i .u32, .i .u32, .i .u32] xs := hx
  obtain ⟨a0, r0, rfl, h0, y0⟩ := fits_cons hx
  obtain ⟨a1, r1, rfl, h1, y1⟩ := fits_cons y0
  obtain ⟨a2, r2, rfl, h2, y2⟩ := fits_cons y1
  obtain ⟨a3, r3, rfl, h3, y3⟩ := fits_cons y2
  obtain ⟨a4, r4, rfl, h4, y4⟩ := fits_cons y3
  obtain ⟨a5, r5, rfl, h5, y5⟩ := fits_cons y4
  obtain ⟨a6, r6, rfl, h6, y6⟩ := fits_cons y5
  obtain ⟨a7, r7, rfl, h7, y7⟩ := fits_cons y6
  obtain rfl := fits_nil y7
  clear hx y0 y1 y2 y3 y4 y5 y6 y7
  refine outs_one ?_
  show fnOf T25 es31 0 [a0, a1, a2, a3, a4, a5, a6, a7] = b2i (insB a0 a1 a2 a3 a4 a5 a6 a7)
  simp only [es31, fnOf, E.den, E.denL, binI, dvI, shI, cmpB, List.getD_cons_zero, List.getD_cons_succ, i2b_b2i, norm_b2i, h0, h1, h2, h3, h4, h5, h6, h7]
  rfl
theorem ok31 : EntryOK Tryd.prog G0 en31 := ok31'.congr lem31
def T31 : Tabs := en31 :: T25
theorem tok31 : TabsOK Tryd.prog G0 T31 := .cons ok31 tok25

def es32 : List E :=
  [(.and (.cmp .leq (.ite (.cmp .gtr (.var (.i .u32) 4) (.var (.i .u32) 0)) (.var (.i .u32) 4) (.var (.i .u32) 0)) (.ite (.cmp .lss (.var (.i .u32) 5) (.var (.i .u32) 1)) (.var (.i .u32) 5) (.var (.i .u32) 1))) (.cmp .eql (.bin .and .u32
    (.bin .and .u32 (.bin .xor .u32 (.var (.i .u32) 3) (.var (.i .u32) 7)) (.var (.i .u32) 2)) (.var (.i .u32) 6)) (.lit (.i .u32) 0)))]
def en32' : Entry := ⟨32, 32, [.a [.i .u32, .i .u32, .i .u32, .i .u32], .a [.i .u32, .i .u32, .i .u32, .i .u32]], .one (.s (.b)), fnOf T31 es32⟩
theorem ok32' : EntryOK Tryd.prog G0 en32' := evE_ok (N := 200) (n := 20) (by kernel_rfl) tok31 (by kernel_rfl)
def en32 : Entry := ⟨32, 32, [.a [.i .u32, .i .u32, .i .u32, .i .u32], .a [.i .u32, .i .u32, .i .u32, .i .u32]], .one (.s (.b)), fun _ xs => b2i (meetB (xs.getD 0 0) (xs.getD 1 0) (xs.getD 2 0) (xs.getD 3 0) (xs.getD 4 0) (xs.getD 5 0) (xs.getD 6 0) (xs.getD 7 0))⟩
theorem lem32 : ∀ xs, fits (allKs en32'.ps) xs → outsE en32'.fn xs 0 en32'.rs.ks = outsE en32.fn xs 0 en32.rs.ks := by
  intro xs hx
  replace hx : fits [.i .u32, .i .u32, .i .u32, .i .u32, .i .u32, .i .u32, .i .u32, .i .u32] xs := hx
  obtain ⟨a0, r0, rfl, h0, y0⟩ := fits_cons hx
  obtain ⟨a1, r1, rfl, h1, y1⟩ := fits_cons y0
  obtain ⟨a2, r2, rfl, h2, y2⟩ := fits_cons y1
  obtain ⟨a3, r3, rfl, h3, y3⟩ := fits_cons y2
  obtain ⟨a4, r4, rfl, h4, y4⟩ := fits_cons y3
  obtain ⟨a5, r5, rfl, h5, y5⟩ := fits_cons y4
  obtain ⟨a6, r6, rfl, h6, y6⟩ := fits_cons y5
  obtain ⟨a7, r7, rfl, h7, y7⟩ := fits_cons y6
  obtain rfl := fits_nil y7
  clear hx y0 y1 y2 y3 y4 y5 y6 y7
  refine outs_one ?_
  show fnOf T31 es32 0 [a0, a1, a2, a3, a4, a5, a6, a7] = b2i (meetB a0 a1 a2 a3 a4 a5 a6 a7)
  simp only [es32, fnOf, E.den, E.denL, binI, dvI, shI, cmpB, List.getD_cons_zero, List.getD_cons_succ, i2b_b2i, norm_b2i, h0, h1, h2, h3, h4, h5, h6, h7]
  rfl
theorem ok32 : EntryOK Tryd.prog G0 en32 := ok32'.congr lem32
def T32 : Tabs := en32 :: T31
theorem tok32 : TabsOK Tryd.prog G0 T32 := .cons ok32 tok31

def es129 : List E :=
  [(.not (.or (.not (.app .b 31 0 [(.var (.i .u32) 0), (.var (.i .u32) 1), (.var (.i .u32) 2), (.var (.i .u32) 3), (.var (.i .u32) 28), (.var (.i .u32) 29), (.var (.i .u32) 30), (.var (.i .u32) 31)])) (.and (.app .b 31 0 [(.var (.i .u32) 0),
    (.var (.i .u32) 1), (.var (.i .u32) 2), (.var (.i .u32) 3), (.var (.i .u32) 28), (.var (.i .u32) 29), (.var (.i .u32) 30), (.var (.i .u32) 31)]) (.or (.not (.app .b 31 0 [(.var (.i .u32) 4), (.var (.i .u32) 5), (.var (.i .u32) 6), (.var (.i
    .u32) 7), (.var (.i .u32) 32), (.var (.i .u32) 33), (.var (.i .u32) 34), (.var (.i .u32) 35)])) (.and (.app .b 31 0 [(.var (.i .u32) 4), (.var (.i .u32) 5), (.var (.i .u32) 6), (.var (.i .u32) 7), (.var (.i .u32) 32), (.var (.i .u32) 33),
    (.var (.i .u32) 34), (.var (.i .u32) 35)]) (.or (.not (.app .b 31 0 [(.var (.i .u32) 8), (.var (.i .u32) 9), (.var (.i .u32) 10), (.var (.i .u32) 11), (.var (.i .u32) 36), (.var (.i .u32) 37), (.var (.i .u32) 38), (.var (.i .u32) 39)]))
    (.and (.app .b 31 0 [(.var (.i .u32) 8), (.var (.i .u32) 9), (.var (.i .u32) 10), (.var (.i .u32) 11), (.var (.i .u32) 36), (.var (.i .u32) 37), (.var (.i .u32) 38), (.var (.i .u32) 39)]) (.or (.not (.app .b 31 0 [(.var (.i .u32) 12), (.var
    (.i .u32) 13), (.var (.i .u32) 14), (.var (.i .u32) 15), (.var (.i .u32) 40), (.var (.i .u32) 41), (.var (.i .u32) 42), (.var (.i .u32) 43)])) (.and (.app .b 31 0 [(.var (.i .u32) 12), (.var (.i .u32) 13), (.var (.i .u32) 14), (.var (.i
    .u32) 15), (.var (.i .u32) 40), (.var (.i .u32) 41), (.var (.i .u32) 42), (.var (.i .u32) 43)]) (.or (.not (.app .b 31 0 [(.var (.i .u32) 16), (.var (.i .u32) 17), (.var (.i .u32) 18), (.var (.i .u32) 19), (.var (.i .u32) 44), (.var (.i
    .u32) 45), (.var (.i .u32) 46), (.var (.i .u32) 47)])) (.and (.app .b 31 0 [(.var (.i .u32) 16), (.var (.i .u32) 17), (.var (.i .u32) 18), (.var (.i .u32) 19), (.var (.i .u32) 44), (.var (.i .u32) 45), (.var (.i .u32) 46), (.var (.i .u32)
    47)]) (.or (.not (.app .b 31 0 [(.var (.i .u32) 20), (.var (.i .u32) 21), (.var (.i .u32) 22), (.var (.i .u32) 23), (.var (.i .u32) 48), (.var (.i .u32) 49), (.var (.i .u32) 50), (.var (.i .u32) 51)])) (.and (.app .b 31 0 [(.var (.i .u32)
    20), (.var (.i .u32) 21), (.var (.i .u32) 22), (.var (.i .u32) 23), (.var (.i .u32) 48), (.var (.i .u32) 49), (.var (.i .u32) 50), (.var (.i .u32) 51)]) (.not (.app .b 31 0 [(.var (.i .u32) 24), (.var (.i .u32) 25), (.var (.i .u32) 26),
    (.var (.i .u32) 27), (.var (.i .u32) 52), (.var (.i .u32) 53), (.var (.i .u32) 54), (.var (.i .u32) 55)])))))))))))))))]
def en129' : Entry := ⟨129, 29, [.a fieldsK, .a fieldsK, .c 31], .one (.s (.b)), fnOf T32 es129⟩
theorem ok129' : EntryOK Tryd.prog G0 en129' := evE_ok (N := 200) (n := 20) (by kernel_rfl) tok32 (by kernel_rfl)
def en129 : Entry := ⟨129, 29, [.a fieldsK, .a fieldsK, .c 31], .one (.s (.b)), fun _ xs => b2i (all7i fun i => xs.getD i 0)⟩
theorem lem129 : ∀ xs, fits (allKs en129'.ps) xs → outsE en129'.fn xs 0 en129'.rs.ks = outsE en129.fn xs 0 en129.rs.ks := by
  intro xs hx
  replace hx : fits [.i .u32, .i .u32, .i .u32, .i .u32, .i .u32, .i .u32, .i .u32, .i .u32, .i .u32, .i .u32, .i .u32, .i .u32, .i .u32, .i .u32, .i .u32, .i .u32, .i .u32, .i .u32, .i .u32, .i .u32, .i .u32, .i .u32, .i .u32, .i .u32, .i .u32, .i .u32, .i .u32, .i .u32, .i .u32, .i .u32, .i .u32, .i .u32, .i .u32, .i .u32, .i .u32, .i .u32, .i .u32, .i .u32, .i .u32, .i .u32, .i .u32, .i .u32, .i .u32, .i .u32, .i .u32, .i .u32, .i .u32, .i .u32, .i .u32, .i .u32, .i .u32, .i .u32, .i .u32, .i .u32, .i .u32, .i .u32] xs := hx
  obtain ⟨a0, r0, rfl, h0, y0⟩ := fits_cons hx
  obtain ⟨a1, r1, rfl, h1, y1⟩ := fits_cons y0
  obtain ⟨a2, r2, rfl, h2, y2⟩ := fits_cons y1
  obtain ⟨a3, r3, rfl, h3, y3⟩ := fits_cons y2
  obtain ⟨a4, r4, rfl, h4, y4⟩ := fits_cons y3
  obtain ⟨a5, r5, rfl, h5, y5⟩ := fits_cons y4
  obtain ⟨a6, r6, rfl, h6, y6⟩ := fits_cons y5
  obtain ⟨a7, r7, rfl, h7, y7⟩ := fits_cons y6
  obtain ⟨a8, r8, rfl, h8, y8⟩ := fits_cons y7
  obtain ⟨a9, r9, rfl, h9, y9⟩ := fits_cons y8
  obtain ⟨a10, r10, rfl, h10, y10⟩ := fits_cons y9
  obtain ⟨a11, r11, rfl, h11, y11⟩ := fits_cons y10
  obtain ⟨a12, r12, rfl, h12, y12⟩ := fits_cons y11
  obtain ⟨a13, r13, rfl, h13, y13⟩ := fits_cons y12
  obtain ⟨a14, r14, rfl, h14, y14⟩ := fits_cons y13
  obtain ⟨a15, r15, rfl, h15, y15⟩ := fits_cons y14
  obtain ⟨a16, r16, rfl, h16, y16⟩ := fits_cons y15
  obtain ⟨a17, r17, rfl, h17, y17⟩ := fits_cons y16
  obtain ⟨a18, r18, rfl, h18, y18⟩ := fits_cons y17
  obtain ⟨a19, r19, rfl, h19, y19⟩ := fits_cons y18
  obtain ⟨a20, r20, rfl, h20, y20⟩ := fits_cons y19
  obtain ⟨a21, r21, rfl, h21, y21⟩ := fits_cons y20
  obtain ⟨a22, r22, rfl, h22, y22⟩ := fits_cons y21
  obtain ⟨a23, r23, rfl, h23, y23⟩ := fits_cons y22
  obtain ⟨a24, r24, rfl, h24, y24⟩ := fits_cons y23
  obtain ⟨a25, r25, rfl, h25, y25⟩ := fits_cons y24
  obtain ⟨a26, r26, rfl, h26, y26⟩ := fits_cons y25
  obtain ⟨a27, r27, rfl, h27, y27⟩ := fits_cons y26
  obtain ⟨a28, r28, rfl, h28, y28⟩ := fits_cons y27
  obtain ⟨a29, r29, rfl, h29, y29⟩ := fits_cons y28
  obtain ⟨a30, r30, rfl, h30, y30⟩ := fits_cons y29
  obtain ⟨a31, r31, rfl, h31, y31⟩ := fits_cons y30
  obtain ⟨a32, r32, rfl, h32, y32⟩ := fits_cons y31
  obtain ⟨a33, r33, rfl, h33, y33⟩ := fits_cons y32
  obtain ⟨a34, r34, rfl, h34, y34⟩ := fits_cons y33
  obtain ⟨a35, r35, rfl, h35, y35⟩ := fits_cons y34
  obtain ⟨a36, r36, rfl, h36, y36⟩ := fits_cons y35
  obtain ⟨a37, r37, rfl, h37, y37⟩ := fits_cons y36
  obtain ⟨a38, r38, rfl, h38, y38⟩ := fits_cons y37
  obtain ⟨a39, r39, rfl, h39, y39⟩ := fits_cons y38
  obtain ⟨a40, r40, rfl, h40, y40⟩ := fits_cons y39
  obtain ⟨a41, r41, rfl, h41, y41⟩ := fits_cons y40
  obtain ⟨a42, r42, rfl, h42, y42⟩ := fits_cons y41
  obtain ⟨a43, r43, rfl, h43, y43⟩ := fits_cons y42
  obtain ⟨a44, r44, rfl, h44, y44⟩ := fits_cons y43
  obtain ⟨a45, r45, rfl, h45, y45⟩ := fits_cons y44
  obtain ⟨a46, r46, rfl, h46, y46⟩ := fits_cons y45
  obtain ⟨a47, r47, rfl, h47, y47⟩ := fits_cons y46
  obtain ⟨a48, r48, rfl, h48, y48⟩ := fits_cons y47
  obtain ⟨a49, r49, rfl, h49, y49⟩ := fits_cons y48
  obtain ⟨a50, r50, rfl, h50, y50⟩ := fits_cons y49
  obtain ⟨a51, r51, rfl, h51, y51⟩ := fits_cons y50
  obtain ⟨a52, r52, rfl, h52, y52⟩ := fits_cons y51
  obtain ⟨a53, r53, rfl, h53, y53⟩ := fits_cons y52
  obtain ⟨a54, r54, rfl, h54, y54⟩ := fits_cons y53
  obtain ⟨a55, r55, rfl, h55, y55⟩ := fits_cons y54
  obtain rfl := fits_nil y55
  clear hx y0 y1 y2 y3 y4 y5 y6 y7 y8 y9 y10 y11 y12 y13 y14 y15 y16 y17 y18 y19 y20 y21 y22 y23 y24 y25 y26 y27 y28 y29 y30 y31 y32 y33 y34 y35 y36 y37 y38 y39 y40 y41 y42 y43 y44 y45 y46 y47 y48 y49 y50 y51 y52 y53 y54 y55
  refine outs_one ?_
  show fnOf T32 es129 0 [a0, a1, a2, a3, a4, a5, a6, a7, a8, a9, a10, a11, a12, a13, a14, a15, a16, a17, a18, a19, a20, a21, a22, a23, a24, a25, a26, a27, a28, a29, a30, a31, a32, a33, a34, a35, a36, a37, a38, a39, a40, a41, a42, a43, a44, a45, a46, a47, a48, a49, a50, a51, a52, a53, a54, a55] = b2i (all7i fun i => [a0, a1, a2, a3, a4, a5, a6, a7, a8, a9, a10, a11, a12, a13, a14, a15, a16, a17, a18, a19, a20, a21, a22, a23, a24, a25, a26, a27, a28, a29, a30, a31, a32, a33, a34, a35, a36, a37, a38, a39, a40, a41, a42, a43, a44, a45, a46, a47, a48, a49, a50, a51, a52, a53, a54, a55].getD i 0)
  have FF : ∀ xs, T32.F 31 0 xs = b2i (insB (xs.getD 0 0) (xs.getD 1 0) (xs.getD 2 0) (xs.getD 3 0) (xs.getD 4 0) (xs.getD 5 0) (xs.getD 6 0) (xs.getD 7 0)) := fun _ => rfl
  simp only [es129, fnOf, E.den, E.denL, binI, dvI, shI, cmpB, List.getD_cons_zero, List.getD_cons_succ, i2b_b2i, norm_b2i, FF, h0, h1, h2, h3, h4, h5, h6, h7, h8, h9, h10, h11, h12, h13, h14, h15, h16, h17, h18, h19, h20, h21, h22, h23, h24, h25, h26, h27, h28, h29, h30, h31, h32, h33, h34, h35, h36, h37, h38, h39, h40, h41, h42, h43, h44, h45, h46, h47, h48, h49, h50, h51, h52, h53, h54, h55, all7i]
  congr 1
  simp only [orn']
  simp only [Bool.not_or, Bool.not_not, Bool.and_assoc]
theorem ok129 : EntryOK Tryd.prog G0 en129 := ok129'.congr lem129
def T129 : Tabs := en129 :: T32
theorem tok129 : TabsOK Tryd.prog G0 T129 := .cons ok129 tok32

def es132 : List E :=
  [(.not (.or (.not (.app .b 32 0 [(.var (.i .u32) 0), (.var (.i .u32) 1), (.var (.i .u32) 2), (.var (.i .u32) 3), (.var (.i .u32) 28), (.var (.i .u32) 29), (.var (.i .u32) 30), (.var (.i .u32) 31)])) (.and (.app .b 32 0 [(.var (.i .u32) 0),
    (.var (.i .u32) 1), (.var (.i .u32) 2), (.var (.i .u32) 3), (.var (.i .u32) 28), (.var (.i .u32) 29), (.var (.i .u32) 30), (.var (.i .u32) 31)]) (.or (.not (.app .b 32 0 [(.var (.i .u32) 4), (.var (.i .u32) 5), (.var (.i .u32) 6), (.var (.i
    .u32) 7), (.var (.i .u32) 32), (.var (.i .u32) 33), (.var (.i .u32) 34), (.var (.i .u32) 35)])) (.and (.app .b 32 0 [(.var (.i .u32) 4), (.var (.i .u32) 5), (.var (.i .u32) 6), (.var (.i .u32) 7), (.var (.i .u32) 32), (.var (.i .u32) 33),
    (.var (.i .u32) 34), (.var (.i .u32) 35)]) (.or (.not (.app .b 32 0 [(.var (.i .u32) 8), (.var (.i .u32) 9), (.var (.i .u32) 10), (.var (.i .u32) 11), (.var (.i .u32) 36), (.var (.i .u32) 37), (.var (.i .u32) 38), (.var (.i .u32) 39)]))
    (.and (.app .b 32 0 [(.var (.i .u32) 8), (.var (.i .u32) 9), (.var (.i .u32) 10), (.var (.i .u32) 11), (.var (.i .u32) 36), (.var (.i .u32) 37), (.var (.i .u32) 38), (.var (.i .u32) 39)]) (.or (.not (.app .b 32 0 [(.var (.i .u32) 12), (.var
    (.i .u32) 13), (.var (.i .u32) 14), (.var (.i .u32) 15), (.var (.i .u32) 40), (.var (.i .u32) 41), (.var (.i .u32) 42), (.var (.i .u32) 43)])) (.and (.app .b 32 0 [(.var (.i .u32) 12), (.var (.i .u32) 13), (.var (.i .u32) 14), (.var (.i
    .u32) 15), (.var (.i .u32) 40), (.var (.i .u32) 41), (.var (.i .u32) 42), (.var (.i .u32) 43)]) (.or (.not (.app .b 32 0 [(.var (.i .u32) 16), (.var (.i .u32) 17), (.var (.i .u32) 18), (.var (.i .u32) 19), (.var (.i .u32) 44), (.var (.i
    .u32) 45), (.var (.i .u32) 46), (.var (.i .u32) 47)])) (.and (.app .b 32 0 [(.var (.i .u32) 16), (.var (.i .u32) 17), (.var (.i .u32) 18), (.var (.i .u32) 19), (.var (.i .u32) 44), (.var (.i .u32) 45), (.var (.i .u32) 46), (.var (.i .u32)
    47)]) (.or (.not (.app .b 32 0 [(.var (.i .u32) 20), (.var (.i .u32) 21), (.var (.i .u32) 22), (.var (.i .u32) 23), (.var (.i .u32) 48), (.var (.i .u32) 49), (.var (.i .u32) 50), (.var (.i .u32) 51)])) (.and (.app .b 32 0 [(.var (.i .u32)
    20), (.var (.i .u32) 21), (.var (.i .u32) 22), (.var (.i .u32) 23), (.var (.i .u32) 48), (.var (.i .u32) 49), (.var (.i .u32) 50), (.var (.i .u32) 51)]) (.not (.app .b 32 0 [(.var (.i .u32) 24), (.var (.i .u32) 25), (.var (.i .u32) 26),
    (.var (.i .u32) 27), (.var (.i .u32) 52), (.var (.i .u32) 53), (.var (.i .u32) 54), (.var (.i .u32) 55)])))))))))))))))]
def en132' : Entry := ⟨132, 29, [.a fieldsK, .a fieldsK, .c 32], .one (.s (.b)), fnOf T129 es132⟩
theorem ok132' : EntryOK Tryd.prog G0 en132' := evE_ok (N := 200) (n := 20) (by kernel_rfl) tok129 (by kernel_rfl)
def en132 : Entry := ⟨132, 29, [.a fieldsK, .a fieldsK, .c 32], .one (.s (.b)), fun _ xs => b2i (all7m fun i => xs.getD i 0)⟩
theorem lem132 : ∀ xs, fits (allKs en132'.ps) xs → outsE en132'.fn xs 0 en132'.rs.ks = outsE en132.fn xs 0 en132.rs.ks := by
  intro xs hx
  replace hx : fits [.i .u32, .i .u32, .i .u32, .i .u32, .i .u32, .i .u32, .i .u32, .i .u32, .i .u32, .i .u32, .i .u32, .i .u32, .i .u32, .i .u32, .i .u32, .i .u32, .i .u32, .i .u32, .i .u32, .i .u32, .i .u32, .i .u32, .i .u32, .i .u32, .i .u32, .i .u32, .i .u32, .i .u32, .i .u32, .i .u32, .i .u32, .i .u32, .i .u32, .i .u32, .i .u32, .i .u32, .i .u32, .i .u32, .i .u32, .i .u32, .i .u32, .i .u32, .i .u32, .i .u32, .i .u32, .i .u32, .i .u32, .i .u32, .i .u32, .i .u32, .i .u32, .i .u32, .i .u32, .i .u32, .i .u32, .i .u32] xs := hx
  obtain ⟨a0, r0, rfl, h0, y0⟩ := fits_cons hx
  obtain ⟨a1, r1, rfl, h1, y1⟩ := fits_cons y0
  obtain ⟨a2, r2, rfl, h2, y2⟩ := fits_cons y1
  obtain ⟨a3, r3, rfl, h3, y3⟩ := fits_cons y2
  obtain ⟨a4, r4, rfl, h4, y4⟩ := fits_cons y3
  obtain ⟨a5, r5, rfl, h5, y5⟩ := fits_cons y4
  obtain ⟨a6, r6, rfl, h6, y6⟩ := fits_cons y5
  obtain ⟨a7, r7, rfl, h7, y7⟩ := fits_cons y6
  obtain ⟨a8, r8, rfl, h8, y8⟩ := fits_cons y7
  obtain ⟨a9, r9, rfl, h9, y9⟩ := fits_cons y8
  obtain ⟨a10, r10, rfl, h10, y10⟩ := fits_cons y9
  obtain ⟨a11, r11, rfl, h11, y11⟩ := fits_cons y10
  obtain ⟨a12, r12, rfl, h12, y12⟩ := fits_cons y11
  obtain ⟨a13, r13, rfl, h13, y13⟩ := fits_cons y12
  obtain ⟨a14, r14, rfl, h14, y14⟩ := fits_cons y13
  obtain ⟨a15, r15, rfl, h15, y15⟩ := fits_cons y14
  obtain ⟨a16, r16, rfl, h16, y16⟩ := fits_cons y15
  obtain ⟨a17, r17, rfl, h17, y17⟩ := fits_cons y16
  obtain ⟨a18, r18, rfl, h18, y18⟩ := fits_cons y17
  obtain ⟨a19, r19, rfl, h19, y19⟩ := fits_cons y18
  obtain ⟨a20, r20, rfl, h20, y20⟩ := fits_cons y19
  obtain ⟨a21, r21, rfl, h21, y21⟩ := fits_cons y20
  obtain ⟨a22, r22, rfl, h22, y22⟩ := fits_cons y21
  obtain ⟨a23, r23, rfl, h23, y23⟩ := fits_cons y22
  obtain ⟨a24, r24, rfl, h24, y24⟩ := fits_cons y23
  obtain ⟨a25, r25, rfl, h25, y25⟩ := fits_cons y24
  obtain ⟨a26, r26, rfl, h26, y26⟩ := fits_cons y25
  obtain ⟨a27, r27, rfl, h27, y27⟩ := fits_cons y26
  obtain ⟨a28, r28, rfl, h28, y28⟩ := fits_cons y27
  obtain ⟨a29, r29, rfl, h29, y29⟩ := fits_cons y28
  obtain ⟨a30, r30, rfl, h30, y30⟩ := fits_cons y29
  obtain ⟨a31, r31, rfl, h31, y31⟩ := fits_cons y30
  obtain ⟨a32, r32, rfl, h32, y32⟩ := fits_cons y31
  obtain ⟨a33, r33, rfl, h33, y33⟩ := fits_cons y32
  obtain ⟨a34, r34, rfl, h34, y34⟩ := fits_cons y33
  obtain ⟨a35, r35, rfl, h35, y35⟩ := fits_cons y34
  obtain ⟨a36, r36, rfl, h36, y36⟩ := fits_cons y35
  obtain ⟨a37, r37, rfl, h37, y37⟩ := fits_cons y36
  obtain ⟨a38, r38, rfl, h38, y38⟩ := fits_cons y37
  obtain ⟨a39, r39, rfl, h39, y39⟩ := fits_cons y38
  obtain ⟨a40, r40, rfl, h40, y40⟩ := fits_cons y39
  obtain ⟨a41, r41, rfl, h41, y41⟩ := fits_cons y40
  obtain ⟨a42, r42, rfl, h42, y42⟩ := fits_cons y41
  obtain ⟨a43, r43, rfl, h43, y43⟩ := fits_cons y42
  obtain ⟨a44, r44, rfl, h44, y44⟩ := fits_cons y43
  obtain ⟨a45, r45, rfl, h45, y45⟩ := fits_cons y44
  obtain ⟨a46, r46, rfl, h46, y46⟩ := fits_cons y45
  obtain ⟨a47, r47, rfl, h47, y47⟩ := fits_cons y46
  obtain ⟨a48, r48, rfl, h48, y48⟩ := fits_cons y47
  obtain ⟨a49, r49, rfl, h49, y49⟩ := fits_cons y48
  obtain ⟨a50, r50, rfl, h50, y50⟩ := fits_cons y49
  obtain ⟨a51, r51, rfl, h51, y51⟩ := fits_cons y50
  obtain ⟨a52, r52, rfl, h52, y52⟩ := fits_cons y51
  obtain ⟨a53, r53, rfl, h53, y53⟩ := fits_cons y52
  obtain ⟨a54, r54, rfl, h54, y54⟩ := fits_cons y53
  obtain ⟨a55, r55, rfl, h55, y55⟩ := fits_cons y54
  obtain rfl := fits_nil y55
  clear hx y0 y1 y2 y3 y4 y5 y6 y7 y8 y9 y10 y11 y12 y13 y14 y15 y16 y17 y18 y19 y20 y21 y22 y23 y24 y25 y26 y27 y28 y29 y30 y31 y32 y33 y34 y35 y36 y37 y38 y39 y40 y41 y42 y43 y44 y45 y46 y47 y48 y49 y50 y51 y52 y53 y54 y55
  refine outs_one ?_
  show fnOf T129 es132 0 [a0, a1, a2, a3, a4, a5, a6, a7, a8, a9, a10, a11, a12, a13, a14, a15, a16, a17, a18, a19, a20, a21, a22, a23, a24, a25, a26, a27, a28, a29, a30, a31, a32, a33, a34, a35, a36, a37, a38, a39, a40, a41, a42, a43, a44, a45, a46, a47, a48, a49, a50, a51, a52, a53, a54, a55] = b2i (all7m fun i => [a0, a1, a2, a3, a4, a5, a6, a7, a8, a9, a10, a11, a12, a13, a14, a15, a16, a17, a18, a19, a20, a21, a22, a23, a24, a25, a26, a27, a28, a29, a30, a31, a32, a33, a34, a35, a36, a37, a38, a39, a40, a41, a42, a43, a44, a45, a46, a47, a48, a49, a50, a51, a52, a53, a54, a55].getD i 0)
  have FF : ∀ xs, T129.F 32 0 xs = b2i (meetB (xs.getD 0 0) (xs.getD 1 0) (xs.getD 2 0) (xs.getD 3 0) (xs.getD 4 0) (xs.getD 5 0) (xs.getD 6 0) (xs.getD 7 0)) := fun _ => rfl
  simp only [es132, fnOf, E.den, E.denL, binI, dvI, shI, cmpB, List.getD_cons_zero, List.getD_cons_succ, i2b_b2i, norm_b2i, FF, h0, h1, h2, h3, h4, h5, h6, h7, h8, h9, h10, h11, h12, h13, h14, h15, h16, h17, h18, h19, h20, h21, h22, h23, h24, h25, h26, h27, h28, h29, h30, h31, h32, h33, h34, h35, h36, h37, h38, h39, h40, h41, h42, h43, h44, h45, h46, h47, h48, h49, h50, h51, h52, h53, h54, h55, all7m]
  congr 1
  simp only [orn']
  simp only [Bool.not_or, Bool.not_not, Bool.and_assoc]
theorem ok132 : EntryOK Tryd.prog G0 en132 := ok132'.congr lem132
def T132 : Tabs := en132 :: T129
theorem tok132 : TabsOK Tryd.prog G0 T132 := .cons ok132 tok129

def es12 : List E :=
  [(.lit .b 1)]
def en12 : Entry := ⟨12, 12, [], .one (.s (.b)), fnOf T132 es12⟩
theorem ok12 : EntryOK Tryd.prog G0 en12 := evE_ok (N := 200) (n := 20) (by kernel_rfl) tok132 (by kernel_rfl)
def T12 : Tabs := en12 :: T132
theorem tok12 : TabsOK Tryd.prog G0 T12 := .cons ok12 tok132

def es11 : List E :=
  [(.and (.and (.cmp .eql (.app .b 17 0 [(.var (.i .u8) 0), (.var (.i .u8) 1), (.var (.i .u8) 2), (.var (.i .u8) 3), (.var (.i .u32) 4), (.var (.i .u8) 5), (.var (.i .u32) 6), (.var (.i .u8) 7), (.var (.i .u16) 8), (.var (.i .u16) 9), (.var
    (.i .u16) 10), (.var (.i .u16) 11), (.var .b 12)]) (.app .b 26 0 [(.var (.i .u8) 0), (.var (.i .u8) 1), (.var (.i .u8) 2), (.var (.i .u8) 3), (.var (.i .u32) 4), (.var (.i .u8) 5), (.var (.i .u32) 6), (.var (.i .u8) 7), (.var (.i .u16) 8),
    (.var (.i .u16) 9), (.var (.i .u16) 10), (.var (.i .u16) 11), (.var .b 12)])) (.cmp .eql (.app .b 24 0 [(.var (.i .u8) 0), (.var (.i .u8) 1), (.var (.i .u8) 2), (.var (.i .u8) 3), (.var (.i .u32) 4), (.var (.i .u8) 5), (.var (.i .u32) 6),
    (.var (.i .u8) 7), (.var (.i .u16) 8), (.var (.i .u16) 9), (.var (.i .u16) 10), (.var (.i .u16) 11), (.var .b 12), (.var (.i .u8) 13), (.var (.i .u8) 14), (.var (.i .u32) 15), (.var (.i .u32) 16), (.var (.i .u16) 17), (.var (.i .u16) 18),
    (.var (.i .u8) 19), (.var (.i .u8) 20), (.var (.i .u8) 21), (.var (.i .u8) 22), (.var (.i .u32) 23), (.var (.i .u32) 24), (.var (.i .i64) 25), (.var (.i .i64) 26), (.var (.i .u8) 27), (.var (.i .u32) 28), (.var (.i .u32) 29), (.var (.i
    .u16) 30), (.var (.i .u16) 31), (.var (.i .u8) 32)]) (.app .b 25 0 [(.var (.i .u8) 0), (.var (.i .u8) 1), (.var (.i .u8) 2), (.var (.i .u8) 3), (.var (.i .u32) 4), (.var (.i .u8) 5), (.var (.i .u32) 6), (.var (.i .u8) 7), (.var (.i .u16)
    8), (.var (.i .u16) 9), (.var (.i .u16) 10), (.var (.i .u16) 11), (.var .b 12), (.var (.i .u8) 13), (.var (.i .u8) 14), (.var (.i .u32) 15), (.var (.i .u32) 16), (.var (.i .u16) 17), (.var (.i .u16) 18), (.var (.i .u8) 19), (.var (.i .u8)
    20), (.var (.i .u8) 21), (.var (.i .u8) 22), (.var (.i .u32) 23), (.var (.i .u32) 24), (.var (.i .i64) 25), (.var (.i .i64) 26), (.var (.i .u8) 27), (.var (.i .u32) 28), (.var (.i .u32) 29), (.var (.i .u16) 30), (.var (.i .u16) 31), (.var
    (.i .u8) 32)]))) (.cmp .eql (.app (.i .i64) 24 1 [(.var (.i .u8) 0), (.var (.i .u8) 1), (.var (.i .u8) 2), (.var (.i .u8) 3), (.var (.i .u32) 4), (.var (.i .u8) 5), (.var (.i .u32) 6), (.var (.i .u8) 7), (.var (.i .u16) 8), (.var (.i .u16)
    9), (.var (.i .u16) 10), (.var (.i .u16) 11), (.var .b 12), (.var (.i .u8) 13), (.var (.i .u8) 14), (.var (.i .u32) 15), (.var (.i .u32) 16), (.var (.i .u16) 17), (.var (.i .u16) 18), (.var (.i .u8) 19), (.var (.i .u8) 20), (.var (.i .u8)
    21), (.var (.i .u8) 22), (.var (.i .u32) 23), (.var (.i .u32) 24), (.var (.i .i64) 25), (.var (.i .i64) 26), (.var (.i .u8) 27), (.var (.i .u32) 28), (.var (.i .u32) 29), (.var (.i .u16) 30), (.var (.i .u16) 31), (.var (.i .u8) 32)]) (.app
    (.i .i64) 25 1 [(.var (.i .u8) 0), (.var (.i .u8) 1), (.var (.i .u8) 2), (.var (.i .u8) 3), (.var (.i .u32) 4), (.var (.i .u8) 5), (.var (.i .u32) 6), (.var (.i .u8) 7), (.var (.i .u16) 8), (.var (.i .u16) 9), (.var (.i .u16) 10), (.var (.i
    .u16) 11), (.var .b 12), (.var (.i .u8) 13), (.var (.i .u8) 14), (.var (.i .u32) 15), (.var (.i .u32) 16), (.var (.i .u16) 17), (.var (.i .u16) 18), (.var (.i .u8) 19), (.var (.i .u8) 20), (.var (.i .u8) 21), (.var (.i .u8) 22), (.var (.i
    .u32) 23), (.var (.i .u32) 24), (.var (.i .i64) 25), (.var (.i .i64) 26), (.var (.i .u8) 27), (.var (.i .u32) 28), (.var (.i .u32) 29), (.var (.i .u16) 30), (.var (.i .u16) 31), (.var (.i .u8) 32)])))]
def en11' : Entry := ⟨11, 11, [.a ruleK, .s (.i .u8), .a factsK], .one (.s (.b)), fnOf T12 es11⟩
theorem ok11' : EntryOK Tryd.prog G0 en11' := evE_ok (N := 200) (n := 20) (by kernel_rfl) tok12 (by kernel_rfl)
def en11 : Entry := ⟨11, 11, [.a ruleK, .s (.i .u8), .a factsK], .one (.s (.b)), fun _ _ => 1⟩
theorem lem11 : ∀ xs, fits (allKs en11'.ps) xs → outsE en11'.fn xs 0 en11'.rs.ks = outsE en11.fn xs 0 en11.rs.ks := by
  intro xs hx
  replace hx : fits [.i .u8, .i .u8, .i .u8, .i .u8, .i .u32, .i .u8, .i .u32, .i .u8, .i .u16, .i .u16, .i .u16, .i .u16, .b, .i .u8, .i .u8, .i .u32, .i .u32, .i .u16, .i .u16, .i .u8, .i .u8, .i .u8, .i .u8, .i .u32, .i .u32, .i .i64, .i .i64, .i .u8, .i .u32, .i .u32, .i .u16, .i .u16, .i .u8] xs := hx
  obtain ⟨a0, r0, rfl, h0, y0⟩ := fits_cons hx
  obtain ⟨a1, r1, rfl, h1, y1⟩ := fits_cons y0
  obtain ⟨a2, r2, rfl, h2, y2⟩ := fits_cons y1
  obtain ⟨a3, r3, rfl, h3, y3⟩ := fits_cons y2
  obtain ⟨a4, r4, rfl, h4, y4⟩ := fits_cons y3
  obtain ⟨a5, r5, rfl, h5, y5⟩ := fits_cons y4
  obtain ⟨a6, r6, rfl, h6, y6⟩ := fits_cons y5
  obtain ⟨a7, r7, rfl, h7, y7⟩ := fits_cons y6
  obtain ⟨a8, r8, rfl, h8, y8⟩ := fits_cons y7
  obtain ⟨a9, r9, rfl, h9, y9⟩ := fits_cons y8
  obtain ⟨a10, r10, rfl, h10, y10⟩ := fits_cons y9
  obtain ⟨a11, r11, rfl, h11, y11⟩ := fits_cons y10
  obtain ⟨a12, r12, rfl, h12, y12⟩ := fits_cons y11
  obtain ⟨a13, r13, rfl, h13, y13⟩ := fits_cons y12
  obtain ⟨a14, r14, rfl, h14, y14⟩ := fits_cons y13
  obtain ⟨a15, r15, rfl, h15, y15⟩ := fits_cons y14
  obtain ⟨a16, r16, rfl, h16, y16⟩ := fits_cons y15
  obtain ⟨a17, r17, rfl, h17, y17⟩ := fits_cons y16
  obtain ⟨a18, r18, rfl, h18, y18⟩ := fits_cons y17
  obtain ⟨a19, r19, rfl, h19, y19⟩ := fits_cons y18
  obtain ⟨a20, r20, rfl, h20, y20⟩ := fits_cons y19
  obtain ⟨a21, r21, rfl, h21, y21⟩ := fits_cons y20
  obtain ⟨a22, r22, rfl, h22, y22⟩ := fits_cons y21
  obtain ⟨a23, r23, rfl, h23, y23⟩ := fits_cons y22
  obtain ⟨a24, r24, rfl, h24, y24⟩ := fits_cons y23
  obtain ⟨a25, r25, rfl, h25, y25⟩ := fits_cons y24
  obtain ⟨a26, r26, rfl, h26, y26⟩ := fits_cons y25
  obtain ⟨a27, r27, rfl, h27, y27⟩ := fits_cons y26
  obtain ⟨a28, r28, rfl, h28, y28⟩ := fits_cons y27
  obtain ⟨a29, r29, rfl, h29, y29⟩ := fits_cons y28
  obtain ⟨a30, r30, rfl, h30, y30⟩ := fits_cons y29
  obtain ⟨a31, r31, rfl, h31, y31⟩ := fits_cons y30
  obtain ⟨a32, r32, rfl, h32, y32⟩ := fits_cons y31
  obtain rfl := fits_nil y32
  clear hx y0 y1 y2 y3 y4 y5 y6 y7 y8 y9 y10 y11 y12 y13 y14 y15 y16 y17 y18 y19 y20 y21 y22 y23 y24 y25 y26 y27 y28 y29 y30 y31 y32
  refine outs_one ?_
  show fnOf T12 es11 0 [a0, a1, a2, a3, a4, a5, a6, a7, a8, a9, a10, a11, a12, a13, a14, a15, a16, a17, a18, a19, a20, a21, a22, a23, a24, a25, a26, a27, a28, a29, a30, a31, a32] = 1
  have F17 : ∀ xs, T12.F 17 0 xs = b2i (rightS fun i => xs.getD i 0) := fun _ => rfl
  have F26 : ∀ xs, T12.F 26 0 xs = b2i (rightS fun i => xs.getD i 0) := fun _ => rfl
  have F24 : ∀ xs, T12.F 24 0 xs = b2i (matF fun i => xs.getD i 0) := fun _ => rfl
  have F25 : ∀ xs, T12.F 25 0 xs = b2i (matF fun i => xs.getD i 0) := fun _ => rfl
  have G24 : ∀ xs, T12.F 24 1 xs = matE fun i => xs.getD i 0 := fun _ => rfl
  have G25 : ∀ xs, T12.F 25 1 xs = matE fun i => xs.getD i 0 := fun _ => rfl
  simp only [es11, fnOf, E.den, E.denL, binI, dvI, shI, cmpB, List.getD_cons_zero, List.getD_cons_succ, i2b_b2i, norm_b2i, F17, F26, F24, F25, G24, G25, h0, h1, h2, h3, h4, h5, h6, h7, h8, h9, h10, h11, h12, h13, h14, h15, h16, h17, h18, h19, h20, h21, h22, h23, h24, h25, h26, h27, h28, h29, h30, h31, h32]
  simp only [K.norm, wrap_wrap, beq_self_eq_true, Bool.and_self, b2i, cond_true]
theorem ok11 : EntryOK Tryd.prog G0 en11 := ok11'.congr lem11
def T11 : Tabs := en11 :: T12
theorem tok11 : TabsOK Tryd.prog G0 T11 := .cons ok11 tok12

def es3 : List E :=
  [(.app .b 11 0 [(.var (.i .u8) 0), (.var (.i .u8) 1), (.var (.i .u8) 2), (.var (.i .u8) 3), (.var (.i .u32) 4), (.var (.i .u8) 5), (.var (.i .u32) 6), (.var (.i .u8) 7), (.var (.i .u16) 8), (.var (.i .u16) 9), (.var (.i .u16) 10), (.var (.i
    .u16) 11), (.var .b 12), (.var (.i .u8) 13), (.var (.i .u8) 14), (.var (.i .u32) 15), (.var (.i .u32) 16), (.var (.i .u16) 17), (.var (.i .u16) 18), (.var (.i .u8) 19), (.var (.i .u8) 20), (.var (.i .u8) 21), (.var (.i .u8) 22), (.var (.i
    .u32) 23), (.var (.i .u32) 24), (.var (.i .i64) 25), (.var (.i .i64) 26), (.var (.i .u8) 27), (.var (.i .u32) 28), (.var (.i .u32) 29), (.var (.i .u16) 30), (.var (.i .u16) 31), (.var (.i .u8) 32)])]
def en3' : Entry := ⟨3, 3, [.a ruleK, .s (.i .u8), .a factsK], .one (.s (.b)), fnOf T11 es3⟩
theorem ok3' : EntryOK Tryd.prog G0 en3' := evE_ok (N := 200) (n := 20) (by kernel_rfl) tok11 (by kernel_rfl)
def en3 : Entry := ⟨3, 3, [.a ruleK, .s (.i .u8), .a factsK], .one (.s (.b)), fun _ _ => 1⟩
theorem lem3 : ∀ xs, fits (allKs en3'.ps) xs → outsE en3'.fn xs 0 en3'.rs.ks = outsE en3.fn xs 0 en3.rs.ks := by
  intro xs hx
  replace hx : fits [.i .u8, .i .u8, .i .u8, .i .u8, .i .u32, .i .u8, .i .u32, .i .u8, .i .u16, .i .u16, .i .u16, .i .u16, .b, .i .u8, .i .u8, .i .u32, .i .u32, .i .u16, .i .u16, .i .u8, .i .u8, .i .u8, .i .u8, .i .u32, .i .u32, .i .i64, .i .i64, .i .u8, .i .u32, .i .u32, .i .u16, .i .u16, .i .u8] xs := hx
  obtain ⟨a0, r0, rfl, h0, y0⟩ := fits_cons hx
  obtain ⟨a1, r1, rfl, h1, y1⟩ := fits_cons y0
  obtain ⟨a2, r2, rfl, h2, y2⟩ := fits_cons y1
  obtain ⟨a3, r3, rfl, h3, y3⟩ := fits_cons y2
  obtain ⟨a4, r4, rfl, h4, y4⟩ := fits_cons y3
  obtain ⟨a5, r5, rfl, h5, y5⟩ := fits_cons y4
  obtain ⟨a6, r6, rfl, h6, y6⟩ := fits_cons y5
  obtain ⟨a7, r7, rfl, h7, y7⟩ := fits_cons y6
  obtain ⟨a8, r8, rfl, h8, y8⟩ := fits_cons y7
  obtain ⟨a9, r9, rfl, h9, y9⟩ := fits_cons y8
  obtain ⟨a10, r10, rfl, h10, y10⟩ := fits_cons y9
  obtain ⟨a11, r11, rfl, h11, y11⟩ := fits_cons y10
  obtain ⟨a12, r12, rfl, h12, y12⟩ := fits_cons y11
  obtain ⟨a13, r13, rfl, h13, y13⟩ := fits_cons y12
  obtain ⟨a14, r14, rfl, h14, y14⟩ := fits_cons y13
  obtain ⟨a15, r15, rfl, h15, y15⟩ := fits_cons y14
  obtain ⟨a16, r16, rfl, h16, y16⟩ := fits_cons y15
  obtain ⟨a17, r17, rfl, h17, y17⟩ := fits_cons y16
  obtain ⟨a18, r18, rfl, h18, y18⟩ := fits_cons y17
  obtain ⟨a19, r19, rfl, h19, y19⟩ := fits_cons y18
  obtain ⟨a20, r20, rfl, h20, y20⟩ := fits_cons y19
  obtain ⟨a21, r21, rfl, h21, y21⟩ := fits_cons y20
  obtain ⟨a22, r22, rfl, h22, y22⟩ := fits_cons y21
  obtain ⟨a23, r23, rfl, h23, y23⟩ := fits_cons y22
  obtain ⟨a24, r24, rfl, h24, y24⟩ := fits_cons y23
  obtain ⟨a25, r25, rfl, h25, y25⟩ := fits_cons y24
  obtain ⟨a26, r26, rfl, h26, y26⟩ := fits_cons y25
  obtain ⟨a27, r27, rfl, h27, y27⟩ := fits_cons y26
  obtain ⟨a28, r28, rfl, h28, y28⟩ := fits_cons y27
  obtain ⟨a29, r29, rfl, h29, y29⟩ := fits_cons y28
  obtain ⟨a30, r30, rfl, h30, y30⟩ := fits_cons y29
  obtain ⟨a31, r31, rfl, h31, y31⟩ := fits_cons y30
  obtain ⟨a32, r32, rfl, h32, y32⟩ := fits_cons y31
  obtain rfl := fits_nil y32
  clear hx y0 y1 y2 y3 y4 y5 y6 y7 y8 y9 y10 y11 y12 y13 y14 y15 y16 y17 y18 y19 y20 y21 y22 y23 y24 y25 y26 y27 y28 y29 y30 y31 y32
  refine outs_one ?_
  show fnOf T11 es3 0 [a0, a1, a2, a3, a4, a5, a6, a7, a8, a9, a10, a11, a12, a13, a14, a15, a16, a17, a18, a19, a20, a21, a22, a23, a24, a25, a26, a27, a28, a29, a30, a31, a32] = 1
  have F11 : ∀ xs, T11.F 11 0 xs = 1 := fun _ => rfl
  simp only [es3, fnOf, E.den, E.denL, binI, dvI, shI, cmpB, List.getD_cons_zero, List.getD_cons_succ, i2b_b2i, norm_b2i, F11]
  rfl
theorem ok3 : EntryOK Tryd.prog G0 en3 := ok3'.congr lem3
def T3 : Tabs := en3 :: T11
theorem tok3 : TabsOK Tryd.prog G0 T3 := .cons ok3 tok11

end Go.Proofs.YtbolcnlenmphhaaDoor
