/- Layer 18: WheelPlaces. -/
import Derived.Test.YtfhheeoejncfgaaHr
set_option linter.unusedVariables false
set_option linter.unusedSimpArgs false
namespace Go.Proofs.Ytfhheeoejncfgaa.Ew
open Go Go.RowKit
noncomputable section
--P Try.prog G0

def postN (_ _ : List Int) : Prop := True
def b5 : Ent := ⟨5, 5, [numS, acts], [], [0], .lt .b 1, z0, preA4⟩
def cX5 : Ctx := ⟨[e22, e28, e23, e20], [(5, pPl, lePl)]⟩
def cX5n : Ctx := cX5.nm

def defs_5 : List (Nat × E) := [(640000179200576, (.app .x 100000028 0 [(.var (.i .u8) 0), (.var (.i .u8) 1), (.var (.i .i64) 2), (.var (.i .i64) 3), (.var .x 4)])),
  (640000179200577, (.app (.i .i64) 100000028 1 [(.var (.i .u8) 0), (.var (.i .u8) 1), (.var (.i .i64) 2), (.var (.i .i64) 3), (.var .x 4)])),
  (640000179200578, (.app (.i .i64) 100000028 2 [(.var (.i .u8) 0), (.var (.i .u8) 1), (.var (.i .i64) 2), (.var (.i .i64) 3), (.var .x 4)])),
  (640000179200579, (.app (.i .i64) 100000028 3 [(.var (.i .u8) 0), (.var (.i .u8) 1), (.var (.i .i64) 2), (.var (.i .i64) 3), (.var .x 4)])),
  (640000179200580, (.app (.i .i64) 100000028 4 [(.var (.i .u8) 0), (.var (.i .u8) 1), (.var (.i .i64) 2), (.var (.i .i64) 3), (.var .x 4)])),
  (640000179200581, (.app .x 100000028 5 [(.var (.i .u8) 0), (.var (.i .u8) 1), (.var (.i .i64) 2), (.var (.i .i64) 3), (.var .x 4)])),
  (640000147201088, (.app .x 100000023 0 [(.var (.i .u8) 0), (.var (.i .u8) 1), (.var (.i .i64) 2), (.var (.i .i64) 3)])),
  (640000147201089, (.app (.i .i64) 100000023 1 [(.var (.i .u8) 0), (.var (.i .u8) 1), (.var (.i .i64) 2), (.var (.i .i64) 3)])),
  (640000147201090, (.app (.i .i64) 100000023 2 [(.var (.i .u8) 0), (.var (.i .u8) 1), (.var (.i .i64) 2), (.var (.i .i64) 3)])),
  (640000147201091, (.app (.i .i64) 100000023 3 [(.var (.i .u8) 0), (.var (.i .u8) 1), (.var (.i .i64) 2), (.var (.i .i64) 3)])),
  (640000147201092, (.app (.i .i64) 100000023 4 [(.var (.i .u8) 0), (.var (.i .u8) 1), (.var (.i .i64) 2), (.var (.i .i64) 3)])),
  (640000147201093, (.app .x 100000023 5 [(.var (.i .u8) 0), (.var (.i .u8) 1), (.var (.i .i64) 2), (.var (.i .i64) 3)])),
  (640000147201094, (.app (.i .i64) 100000023 6 [(.var (.i .u8) 0), (.var (.i .u8) 1), (.var (.i .i64) 2), (.var (.i .i64) 3)])),
  (640000147201095, (.app (.i .i64) 100000023 7 [(.var (.i .u8) 0), (.var (.i .u8) 1), (.var (.i .i64) 2), (.var (.i .i64) 3)])),
  (640057632001600, (.app (.i .i64) 100009005 0 [(.var .x 640000179200576), (.var (.i .i64) 640000179200577), (.var (.i .i64) 640000179200578), (.var (.i .i64) 640000179200579), (.var (.i .i64) 640000179200580), (.var .x 640000179200581), (.lit (.i .i64) 0), (.var (.i .i64) 640000147201094), (.lit (.i .i64) 0)])),
  (640000128001600, (.app (.i .i64) 100000020 0 [(.var .x 640000179200576), (.var (.i .i64) 640000179200577), (.var (.i .i64) 640000179200578), (.var (.i .i64) 640000179200579), (.var (.i .i64) 640000179200580), (.var .x 640000179200581)]))]
def ob_5 : E := (.and (.and (.app .b 100000022 1000000 []) (.and (.and (.app .b 100000028 1000000 [(.var (.i .u8) 0), (.var (.i .u8) 1), (.var (.i .i64) 2), (.var (.i .i64) 3), (.var .x 4)]) (dE defs_5 0 6)) (.and (.and (.app .b 100000023 1000000 [(.var (.i .u8) 0), (.var (.i .u8) 1), (.var (.i .i64) 2), (.var (.i .i64) 3)]) (dE defs_5 6 8)) (.and (.and (.app .b 100009005 1000000 [(.var .x 640000179200576), (.var (.i .i64) 640000179200577), (.var (.i .i64) 640000179200578), (.var (.i .i64) 640000179200579), (.var (.i .i64) 640000179200580), (.var .x 640000179200581), (.lit (.i .i64) 0), (.var (.i .i64) 640000147201094), (.lit (.i .i64) 0)]) (dE defs_5 14 1)) (.and (.app .b 100000020 1000000 [(.var .x 640000179200576), (.var (.i .i64) 640000179200577), (.var (.i .i64) 640000179200578), (.var (.i .i64) 640000179200579), (.var (.i .i64) 640000179200580), (.var .x 640000179200581)]) (dE defs_5 15 1)))))) (.cmp .eql (.var (.i .i64) 640057632001600) (.var (.i .i64) 640000128001600)))
def es_5 : List E := []
def e5 : Ent := b5.fw (fnR cX5n.l.F b5.np ob_5 es_5 postN)
theorem ev_5 : evE Try.prog G0 (tabOf cX5n.fs) (ltOf cX5n.ls) 40 10 e5 = some (ob_5, es_5) := by kernel_rfl

theorem cX5ok : cX5.OK Try.prog G0 := Ctx.OK.addL (c := ⟨[e22, e28, e23, e20], []⟩) ((((Ctx.OK.nil.addF ok20 rfl).addF ok23 rfl).addF ok28.1 rfl).addF ok22 rfl) okPl.1 rfl

theorem WV.cntT {S now bu le mo T c : Int} {d : Nat → Int} {B : List Nat} (h : WV S now bu le mo T c d B) : cntT (dc T) c = le := by
  rw [h.len]
  unfold Ew.cntT cntP
  congr 1
  exact cnt_congr fun j hj => by rw [h.dl j (by omega)]
set_option maxHeartbeats 4000000 in
theorem ok5 : EntryOK Try.prog G0 e5 ∧ PostOK e5 postN := by
  refine cX5ok.nm.entryH mixed ev_5 (by kernel_rfl) _ rfl fun xs hf hp => ?_
  obtain ⟨l, hl, hF⟩ := ctx_P (l0 := cX5n.l)
  show ∃ ρ : Nat → Int, _ ∧ ob_5.tt cX5n.l.F ρ = true ∧ postN xs (es_5.map (E.den cX5n.l.F ρ))
  rw [hl]
  have F20 := FC (k := 100000020) rfl (hF e20.nm (by rfl) (by decide))
  have F22 := FC (k := 100000022) rfl (hF e22.nm (by rfl) (by decide))
  have F23 := FC (k := 100000023) rfl (hF e23.nm (by rfl) (by decide))
  have F28 := FC (k := 100000028) rfl (hF e28.nm (by rfl) (by decide))
  have F9005 := FC (k := 100009005) rfl (hF lePl.nm.ent (by rfl) (by decide))
  replace hf : fits [(.i .u8), (.i .u8), (.i .i64), (.i .i64), .x] xs := hf
  obtain ⟨nb, xs0, hx0, hnb, hf0⟩ := fits_cons hf
  obtain ⟨ns, xs1, hx1, hns, hf1⟩ := fits_cons hf0
  obtain ⟨nn, xs2, hx2, hnn, hf2⟩ := fits_cons hf1
  obtain ⟨nc, xs3, hx3, hnc, hf3⟩ := fits_cons hf2
  obtain ⟨A, xs4, hx4, hA, hf4⟩ := fits_cons hf3
  have hxn := fits_nil hf4
  subst hxn hx4 hx3 hx2 hx1 hx0
  simp only [norm_i] at hnb hns hnn hnc
  obtain ⟨ρ, hρ, hd⟩ := solve (F := l.F) 5 defs_5 (by kernel_rfl) [nb, ns, nn, nc, A]
  have hDf := dE_tt (by kernel_rfl) hd
  refine ⟨ρ, hρ, ?_⟩
  have r0 : ρ 0 = nb := hρ 0 (by decide)
  have r1 : ρ 1 = ns := hρ 1 (by decide)
  have r2 : ρ 2 = nn := hρ 2 (by decide)
  have r3 : ρ 3 = nc := hρ 3 (by decide)
  have r4 : ρ 4 = A := hρ 4 (by decide)
  obtain ⟨v1, hv1, hd1, hn1⟩ := nmd hd 0 rfl
  obtain ⟨v2, hv2, hd2, hn2⟩ := nmd hd 1 rfl
  obtain ⟨v3, hv3, hd3, hn3⟩ := nmd hd 2 rfl
  obtain ⟨v4, hv4, hd4, hn4⟩ := nmd hd 3 rfl
  obtain ⟨v5, hv5, hd5, hn5⟩ := nmd hd 4 rfl
  obtain ⟨v6, hv6, hd6, hn6⟩ := nmd hd 5 rfl
  obtain ⟨v7, hv7, hd7, hn7⟩ := nmd hd 6 rfl
  obtain ⟨v8, hv8, hd8, hn8⟩ := nmd hd 7 rfl
  obtain ⟨v9, hv9, hd9, hn9⟩ := nmd hd 8 rfl
  obtain ⟨v10, hv10, hd10, hn10⟩ := nmd hd 9 rfl
  obtain ⟨v11, hv11, hd11, hn11⟩ := nmd hd 10 rfl
  obtain ⟨v12, hv12, hd12, hn12⟩ := nmd hd 11 rfl
  obtain ⟨v13, hv13, hd13, hn13⟩ := nmd hd 12 rfl
  obtain ⟨v14, hv14, hd14, hn14⟩ := nmd hd 13 rfl
  obtain ⟨v15, hv15, hd15, hn15⟩ := nmd hd 14 rfl
  obtain ⟨v16, hv16, hd16, hn16⟩ := nmd hd 15 rfl
  simp only [norm_i] at hn2 hn3 hn4 hn5 hn8 hn9 hn10 hn11 hn13 hn14 hn15 hn16
  simp (disch := omega) only [norm_i, F20, F23, F28, F9005, Ent.nm_fn, r0, hnb, r1, hns, r2, hnn, r3, hnc, r4, hv1, hv2, hn2, hv3, hn3, hv4, hn4, hv5, hn5, hv6, hv7, hv8, hn8, hv9, hn9, hv10, hn10, hv11, hn11, hv12, hv13, hn13, hv14, hn14, hv15, hn15, hv16, hn16, ewA, ewL, preC, binI, dvI, shI, cmpB, env, bi, List.headD, List.tail, List.map, Nat.reduceAdd, ewR, ewB, ewM, if_true, if_false, implies_true, forall_const, ne_eq, reduceCtorEq, Int.reduceEq, Int.reduceLT, Int.reduceLE, Int.reduceToNat, Int.reduceAdd, Int.reduceSub, Int.reduceMul, Int.reduceNeg, Int.reduceBEq, Nat.reduceLT, Nat.reduceEqDiff] at hd1 hd2 hd3 hd4 hd5 hd6 hd7 hd8 hd9 hd10 hd11 hd12 hd13 hd14 hd15 hd16
  have hSS := And.intro (And.intro (And.intro (And.intro (And.intro F20 F22) (And.intro F23 (And.intro F28 F9005))) (And.intro (And.intro r0 hnb) (And.intro r1 (And.intro hns r2)))) (And.intro (And.intro (And.intro hnn r3) (And.intro hnc (And.intro r4 hv1))) (And.intro (And.intro hv2 (And.intro hn2 hv3)) (And.intro hn3 (And.intro hv4 hn4))))) (And.intro (And.intro (And.intro (And.intro hv5 hn5) (And.intro hv6 (And.intro hv7 hv8))) (And.intro (And.intro hn8 (And.intro hv9 hn9)) (And.intro hv10 (And.intro hn10 hv11)))) (And.intro (And.intro (And.intro hn11 hv12) (And.intro hv13 (And.intro hn13 hv14))) (And.intro (And.intro hn14 (And.intro hv15 hn15)) (And.intro hv16 (And.intro hn16 hDf)))))
  have rs := u8r hns
  have y28 : e28.pre [nb, ns, nn, nc, A] := hp
  have y22 : e22.pre [] := trivial
  have y23 : e23.pre [nb, ns, nn, nc] := trivial
  obtain ⟨i1, i2, i3, i4⟩ := (PostOK.use (ks := [(.i .u8), (.i .u8), (.i .i64), (.i .i64), .x]) (os := [.x, (.i .i64), (.i .i64), (.i .i64), (.i .i64), .x]) (vs := [v1, v2, v3, v4, v5, v6]) ok28.2 rfl rfl ⟨hd1, hd2, hd3, hd4, hd5, hd6, trivial⟩) ⟨(by first | rfl | assumption | exact i64w (by omega) (by omega) | exact u8w (by omega) (by omega)), (by first | rfl | assumption | exact i64w (by omega) (by omega) | exact u8w (by omega) (by omega)), (by first | rfl | assumption | exact i64w (by omega) (by omega) | exact u8w (by omega) (by omega)), (by first | rfl | assumption | exact i64w (by omega) (by omega) | exact u8w (by omega) (by omega)), rfl, trivial⟩ y28
  obtain ⟨q1, q2, q3, q4, q5, q6, q7, q8, q9, q10, q11⟩ := WV.fresh rs.1 ⟨hd7, hd8, hd9, hd10, hd11, hd12, hd13, hd14, trivial⟩
  obtain ⟨d, B, hw⟩ := i1
  replace hw : WV v1 v2 v3 v4 v5 v6 (capF [nb, ns, nn, nc]) d B := hw
  rw [← q6] at hw
  have hct := hw.ct
  have yp : lePl.ent.pre [v1, v2, v3, v4, v5, v6, 0, v13, 0] := ⟨⟨d, B, hw⟩, rfl, by show (0 : Int) ≤ 0; decide, by show 0 ≤ v13; omega⟩
  have q := (PostOK.use (ks := [.x, (.i .i64), (.i .i64), (.i .i64), (.i .i64), .x, (.i .i64), (.i .i64), (.i .i64)]) (os := [(.i .i64)]) (vs := [v15]) okPl.2 rfl rfl ⟨hd15, trivial⟩) ⟨rfl, (by first | rfl | assumption | exact i64w (by omega) (by omega) | exact u8w (by omega) (by omega)), (by first | rfl | assumption | exact i64w (by omega) (by omega) | exact u8w (by omega) (by omega)), (by first | rfl | assumption | exact i64w (by omega) (by omega) | exact u8w (by omega) (by omega)), (by first | rfl | assumption | exact i64w (by omega) (by omega) | exact u8w (by omega) (by omega)), rfl, rfl, (by first | rfl | assumption | exact i64w (by omega) (by omega) | exact u8w (by omega) (by omega)), rfl, trivial⟩ yp
  replace q : v15 = cntT (dc v6) v13 := q
  rw [hw.cntT] at q
  have hle := hw.ler
  have y20 : e20.pre [v1, v2, v3, v4, v5, v6] := hw.lenOK []
  have z : v4 = v16 := (hd16.trans (i64w (by show _ ≤ v4; omega) (by show v4 ≤ _; omega))).symm
  refine ⟨?_, trivial⟩
  simp (disch := omega) only [ob_5, ewA, ewL, preC, binI, dvI, shI, cmpB, env, bi, List.headD, List.tail, List.map, Nat.reduceAdd, ewR, ewB, ewM, if_true, if_false, implies_true, forall_const, ne_eq, reduceCtorEq, Int.reduceEq, Int.reduceLT, Int.reduceLE, Int.reduceToNat, Int.reduceAdd, Int.reduceSub, Int.reduceMul, Int.reduceNeg, Int.reduceBEq, Nat.reduceLT, Nat.reduceEqDiff, hSS]
  repeat' (first | (with_reducible apply And.intro) | (with_reducible intro _))
  all_goals first | with_reducible assumption | trivial | omega | (split <;> omega)

end
end Go.Proofs.Ytfhheeoejncfgaa.Ew
