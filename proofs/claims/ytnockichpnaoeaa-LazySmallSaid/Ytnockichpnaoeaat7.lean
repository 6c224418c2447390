/- Texts that the claim needs, set narrow. -/
import Derived.Test.Ytnockichpnaoeaat6
set_option linter.unusedVariables false
set_option linter.unusedSimpArgs false
namespace Go.Proofs.Ytnockichpnaoeaa.Ew
open Go Go.RowKit
noncomputable section
def lzS : Sh := .obj 49 [wsh, i64, i64, i64, lio]
def lzO : Ob := { j := 0, ty := 49, cs := [.ref 1, i64, i64, i64, lio] }
def wobL : Ob := { j := 1, ty := 102, tl := some k3, cs := [.sc .x, i64, i64, i64, i64, ltm] }
def DZ (xs : List Int) : RL := dc (env xs 9)
def lenD (xs : List Int) : Int := ((DZ xs).length : Int)
def kpZ : List Nat := [0, 1, 2, 3]
abbrev riD (xs : List Int) : Prop := 0 <= env xs 10 /\ env xs 10 < lenD xs
def f36 (_ : Nat) (xs : List Int) : Int := b2i (decide (0 <= env xs 10) && decide (env xs 10 < lenD xs))
def z34 : Ent := ⟨334, 34, [lzS], [], kpZ, .lt .b 0, z0, T0⟩
def z36 : Ent := ⟨336, 36, [lzS, i64], [], kpZ, bS, f36, fun xs => lenD xs <= 4096⟩
def z16 : Ent := ⟨316, 16, [lzS], [], kpZ, i64, fun _ xs => env xs 1, lenOK⟩
def z15 : Ent := ⟨315, 15, [lzS], [], kpZ, i64, fun _ xs => env xs 7, T0⟩
def z17 : Ent := ⟨317, 17, [lzS], [], kpZ, i64, fun _ xs => env xs 8, T0⟩
def pre23z (xs : List Int) : Prop := lenOK xs /\ rowsOK k3 (SW xs) /\ (SW xs).length = 2049
def z23 : Ent := ⟨323, 23, [lzS], [], kpZ, i64, fun _ xs => gC (SW xs) 2048 2, pre23z⟩
def fn21z (j : Nat) (xs : List Int) : Int := match j with
 | 0 => if riD xs then gC (DZ xs) (env xs 10).toNat 0 else 0
 | _ => b2i (decide (riD xs) && decide (gC (DZ xs) (env xs 10).toNat 0 ≠ 0))
def pre21z (xs : List Int) : Prop := lenD xs <= 4096 /\ rowsOK intK (DZ xs)
def z21 : Ent := ⟨321, 21, [lzS, i64], [], kpZ, .tup [i64, bS], fn21z, pre21z⟩
abbrev riT (xs : List Int) : Prop := 0 <= env xs 10 /\ env xs 10 < lenT xs
def fn22z (j : Nat) (xs : List Int) : Int := match j with
 | 0 => if riT xs then gC (TW xs) (env xs 10).toNat 4 else 0
 | _ => b2i (decide (riT xs) && decide (gC (TW xs) (env xs 10).toNat 4 ≠ 0))
def z22 : Ent := ⟨322, 22, [lzS, i64], [], kpZ, .tup [i64, bS], fn22z, preR⟩
def cZ0 : Ctx := ⟨[], []⟩
def cZ1 : Ctx := ⟨[z34, z36, e18, e16, e29], []⟩
def cZ1n : Ctx := cZ1.nm
def TV : E := (.lit .b 1)
def Wk : List E := []
theorem Wl : evE Try.prog G0 (Aj cZ0.fs) (ltOf cZ0.ls) 40 10 z34 = some (TV, Wk) := by kernel_rfl
def Ov : E := (.lit .b 1)
def TX : List E := [(.and (.cmp .geq (vI 10) (lI 0)) (.cmp .lss (vI 10) (aI 0 0 [(vX 9)])))]
theorem Wm : evE Try.prog G0 (Aj cZ0.fs) (ltOf cZ0.ls) 40 10 z36 = some (Ov, TX) := by kernel_rfl
def Ow : List (Nat × E) := [(640000115200256, (aI 100000018 0 [(vX 0), (vI 1), (vI 2), (vI 3), (vI 4), (vX 5)]))]
def Ox : E := (.and (.app .b 100000334 1000000 [(vX 0), (vI 1), (vI 2), (vI 3), (vI 4), (vX 5), (vI 6), (vI 7), (vI 8), (vX 9)]) (.and (.app .b 100000018 1000000 [(vX 0), (vI 1), (vI 2), (vI 3), (vI 4), (vX 5)]) (dE Ow 0 1)))
def TY : List E := [(vI 640000115200256)]
theorem Wn : evE Try.prog G0 (Aj cZ1n.fs) (ltOf cZ1n.ls) 40 10 z16 = some (Ox, TY) := by kernel_rfl
def Oy : E := (.app .b 100000334 1000000 [(vX 0), (vI 1), (vI 2), (vI 3), (vI 4), (vX 5), (vI 6), (vI 7), (vI 8), (vX 9)])
def TZ : List E := [(vI 7)]
theorem Wo : evE Try.prog G0 (Aj cZ1n.fs) (ltOf cZ1n.ls) 40 10 z15 = some (Oy, TZ) := by kernel_rfl
def Oz : E := (.app .b 100000334 1000000 [(vX 0), (vI 1), (vI 2), (vI 3), (vI 4), (vX 5), (vI 6), (vI 7), (vI 8), (vX 9)])
def T3 : List E := [(vI 8)]
theorem Wp : evE Try.prog G0 (Aj cZ1n.fs) (ltOf cZ1n.ls) 40 10 z17 = some (Oz, T3) := by kernel_rfl
def OA : List (Nat × E) := [(640000102400256, (aI 100000016 0 [(vX 0), (vI 1), (vI 2), (vI 3), (vI 4), (vX 5)]))]
def OB : E := (.and (.app .b 100000334 1000000 [(vX 0), (vI 1), (vI 2), (vI 3), (vI 4), (vX 5), (vI 6), (vI 7), (vI 8), (vX 9)]) (.and (.app .b 100000016 1000000 [(vX 0), (vI 1), (vI 2), (vI 3), (vI 4), (vX 5)]) (dE OA 0 1)))
def T4 : List E := [(vI 640000102400256)]
theorem Wq : evE Try.prog G0 (Aj cZ1n.fs) (ltOf cZ1n.ls) 40 10 z23 = some (OB, T4) := by kernel_rfl
def OC : List (Nat × E) := [(640002150400256, (.app .b 100000336 0 [(vX 0), (vI 1), (vI 2), (vI 3), (vI 4), (vX 5), (vI 6), (vI 7), (vI 8), (vX 9), (vI 10)]))]
def Jn : E := (.and (.cmp .geq (vI 10) (lI 0)) (.cmp .lss (vI 10) (aI 0 0 [(vX 9)])))
def GR : E := (.or (.not (.var .b 640002150400256)) (.cmp .eql (aI 0 1 [(vX 9), (vI 10), (.lit .x 0)]) (lI 0)))
def Ls : E := (.and (.and (.app .b 100000334 1000000 [(vX 0), (vI 1), (vI 2), (vI 3), (vI 4), (vX 5), (vI 6), (vI 7), (vI 8), (vX 9)]) (.and (.and (.app .b 100000336 1000000 [(vX 0), (vI 1), (vI 2), (vI 3), (vI 4), (vX 5), (vI 6), (vI 7), (vI 8), (vX 9), (vI 10)]) (dE OC 0 1)) (.or (.not (.var .b 640002150400256)) Jn))) (.or GR Jn))
def OD : List E := [(.ite GR (lI 0) (aI 0 1 [(vX 9), (vI 10), (.lit .x 0)])), (.not GR)]
theorem Wr : evE Try.prog G0 (Aj cZ1n.fs) (ltOf cZ1n.ls) 40 10 z21 = some (Ls, OD) := by kernel_rfl
def LY : List E := [(vX 0), (vI 1), (vI 2), (vI 3), (vI 4), (vX 5), (vI 10)]
def OE : List (Nat × E) := [(640000185600256, (aI 100000029 0 LY)),
 (640000185600257, (.app .b 100000029 1 LY))]
def OG : E := (.and (.app .b 100000334 1000000 [(vX 0), (vI 1), (vI 2), (vI 3), (vI 4), (vX 5), (vI 6), (vI 7), (vI 8), (vX 9)]) (.and (.app .b 100000029 1000000 [(vX 0), (vI 1), (vI 2), (vI 3), (vI 4), (vX 5), (vI 10)]) (dE OE 0 2)))
def T6 : List E := [(vI 640000185600256), (.var .b 640000185600257)]
theorem Ws : evE Try.prog G0 (Aj cZ1n.fs) (ltOf cZ1n.ls) 40 10 z22 = some (OG, T6) := by kernel_rfl
theorem UX : cZ0.OK Try.prog G0 := Ctx.OK.nil
theorem Rr : EntryOK Try.prog G0 z34 := UX.entryP Az Wl _ rfl _ rfl fun xs hf hp => by
 obtain ⟨l, hl, hF⟩ := AK (l0 := cZ0.l)
 show TV.tt cZ0.l.F _ = true /\ Ax z34.fn _ cZ0.l.F _ _ _ _
 rw [hl]
 refine ⟨rfl, trivial⟩
theorem Wt {k1 k2 k3 k4 k5 k6 k7 k8 k9 k10 k11 : K} {xs : List Int} (h : fits [k1, k2, k3, k4, k5, k6, k7, k8, k9, k10, k11] xs) : ∃ a b c d e f g i j k l, xs = [a, b, c, d, e, f, g, i, j, k, l] := by
 have := Am h
 match xs, this with
 | [a, b, c, d, e, f, g, i, j, k, l], _ => exact ⟨a, b, c, d, e, f, g, i, j, k, l, rfl⟩
theorem UY : EntryOK Try.prog G0 z36 := UX.entryP Az Wm _ rfl _ rfl fun xs hf hp => by
 obtain ⟨l, hl, hF⟩ := AK (l0 := cZ0.l)
 show Ov.tt cZ0.l.F _ = true /\ Ax z36.fn _ cZ0.l.F _ _ _ _
 rw [hl]
 obtain ⟨S, now, bu, le, mo, T, h, ln, vn, D, i, rfl⟩ := Wt hf
 obtain ⟨h0, h1, h2, h3, h4, h5, h6, h7, h8, h9, h10, _⟩ := hf
 simp only [An, A1] at h10
 replace hp : ((dc D).length : Int) <= 4096 := hp
 refine ⟨?_, ?_, trivial⟩
 all_goals simp (disch := omega) only [Ov, TX, z36, f36, lenD, DZ, ewY, ewB, ewM, ewQ, reduceCtorEq, seval, h10]
theorem Jo : cZ1.OK Try.prog G0 := ((((Ctx.OK.nil.addF ok29 rfl).addF ok16 rfl).addF ok18 rfl).addF UY rfl).addF Rr rfl
theorem okz16 : EntryOK Try.prog G0 z16 := Jo.nm.entryR Az Wn _ rfl _ rfl fun xs hf hp => by
 obtain ⟨l, hl, hF⟩ := AK (l0 := cZ1n.l)
 show ∃ ρ : Nat -> Int, _ /\ Ox.tt cZ1n.l.F ρ = true /\ Ax z16.fn _ cZ1n.l.F ρ _ _ _
 rw [hl]
 have F18 := FC (k := 100000018) rfl (hF e18.nm (by rfl) (by decide))
 have F334 := FC (k := 100000334) rfl (hF z34.nm (by rfl) (by decide))
 replace hf : fits [.x, kJ, kJ, kJ, kJ, .x, kJ, kJ, kJ, .x] xs := hf
 obtain ⟨S, hS, now, hnow, bu, hbu, le, hle, mo, hmo, T, hT, h, hh, ln, hln, vn, hvn, D, hD, rfl⟩ := Fu hf
 simp only [An] at hnow hbu hle hmo hh hln hvn
 obtain ⟨ρ, hρ, hd⟩ := solve (F := l.F) 10 Ow (by kernel_rfl) [S, now, bu, le, mo, T, h, ln, vn, D]
 have hDf := MR (by kernel_rfl) hd
 refine ⟨ρ, hρ, ?_⟩
 have hρe := Fv hρ (Nat.le_refl _)
 simp only [eqL, Nat.reduceAdd] at hρe
 obtain ⟨v1, hv1, hd1, hn1⟩ := nmd hd 0 rfl
 simp only [An] at hn1
 have hSS := Jj (Jj (Jj F18 (Jj F334 hρe)) (Jj hnow (Jj hbu hle))) (Jj (Jj hmo (Jj hh hln)) (Jj (Jj hvn hv1) (Jj hn1 hDf)))
 simp (disch := omega) only [An, Ent.nm_fn, hSS, ewY, ewB, ewM, ewQ, reduceCtorEq, seval] at hd1
 have y : e18.pre [S, now, bu, le, mo, T] := hp
 have z : v1 = now := hd1.trans hnow
 have y34 : z34.pre [S, now, bu, le, mo, T, h, ln, vn, D] := trivial
 refine ⟨?_, ?_, trivial⟩
 all_goals simp (disch := omega) only [Ox, TY, z16, ewY, ewB, ewM, ewQ, reduceCtorEq, seval, hSS, y, y34, z]
theorem UZ : EntryOK Try.prog G0 z15 := Jo.nm.entryR Az Wo _ rfl _ rfl fun xs hf hp => by
 obtain ⟨l, hl, hF⟩ := AK (l0 := cZ1n.l)
 show ∃ ρ : Nat -> Int, _ /\ Oy.tt cZ1n.l.F ρ = true /\ Ax z15.fn _ cZ1n.l.F ρ _ _ _
 rw [hl]
 have F334 := FC (k := 100000334) rfl (hF z34.nm (by rfl) (by decide))
 replace hf : fits [.x, kJ, kJ, kJ, kJ, .x, kJ, kJ, kJ, .x] xs := hf
 obtain ⟨S, hS, now, hnow, bu, hbu, le, hle, mo, hmo, T, hT, h, hh, ln, hln, vn, hvn, D, hD, rfl⟩ := Fu hf
 simp only [An] at hnow hbu hle hmo hh hln hvn
 obtain ⟨ρ, hρ⟩ : ∃ ρ : Nat -> Int, ∀ i_, i_ < 10 -> ρ i_ = env [S, now, bu, le, mo, T, h, ln, vn, D] i_ := ⟨env [S, now, bu, le, mo, T, h, ln, vn, D], fun _ _ => rfl⟩
 refine ⟨ρ, hρ, ?_⟩
 have hρe := Fv hρ (Nat.le_refl _)
 simp only [eqL, Nat.reduceAdd] at hρe
 have hSS := Jj (Jj (Jj F334 hρe) (Jj hnow hbu)) (Jj (Jj hle hmo) (Jj hh (Jj hln hvn)))
 have y34 : z34.pre [S, now, bu, le, mo, T, h, ln, vn, D] := trivial
 refine ⟨?_, ?_, trivial⟩
 all_goals simp (disch := omega) only [Oy, TZ, z15, ewY, ewB, ewM, ewQ, reduceCtorEq, seval, hSS, y34]
theorem U0 : EntryOK Try.prog G0 z17 := Jo.nm.entryR Az Wp _ rfl _ rfl fun xs hf hp => by
 obtain ⟨l, hl, hF⟩ := AK (l0 := cZ1n.l)
 show ∃ ρ : Nat -> Int, _ /\ Oz.tt cZ1n.l.F ρ = true /\ Ax z17.fn _ cZ1n.l.F ρ _ _ _
 rw [hl]
 have F334 := FC (k := 100000334) rfl (hF z34.nm (by rfl) (by decide))
 replace hf : fits [.x, kJ, kJ, kJ, kJ, .x, kJ, kJ, kJ, .x] xs := hf
 obtain ⟨S, hS, now, hnow, bu, hbu, le, hle, mo, hmo, T, hT, h, hh, ln, hln, vn, hvn, D, hD, rfl⟩ := Fu hf
 simp only [An] at hnow hbu hle hmo hh hln hvn
 obtain ⟨ρ, hρ⟩ : ∃ ρ : Nat -> Int, ∀ i_, i_ < 10 -> ρ i_ = env [S, now, bu, le, mo, T, h, ln, vn, D] i_ := ⟨env [S, now, bu, le, mo, T, h, ln, vn, D], fun _ _ => rfl⟩
 refine ⟨ρ, hρ, ?_⟩
 have hρe := Fv hρ (Nat.le_refl _)
 simp only [eqL, Nat.reduceAdd] at hρe
 have hSS := Jj (Jj (Jj F334 hρe) (Jj hnow hbu)) (Jj (Jj hle hmo) (Jj hh (Jj hln hvn)))
 have y34 : z34.pre [S, now, bu, le, mo, T, h, ln, vn, D] := trivial
 refine ⟨?_, ?_, trivial⟩
 all_goals simp (disch := omega) only [Oz, T3, z17, ewY, ewB, ewM, ewQ, reduceCtorEq, seval, hSS, y34]
theorem U1 : EntryOK Try.prog G0 z23 := Jo.nm.entryR Az Wq _ rfl _ rfl fun xs hf hp => by
 obtain ⟨l, hl, hF⟩ := AK (l0 := cZ1n.l)
 show ∃ ρ : Nat -> Int, _ /\ OB.tt cZ1n.l.F ρ = true /\ Ax z23.fn _ cZ1n.l.F ρ _ _ _
 rw [hl]
 have F16 := FC (k := 100000016) rfl (hF e16.nm (by rfl) (by decide))
 have F334 := FC (k := 100000334) rfl (hF z34.nm (by rfl) (by decide))
 replace hf : fits [.x, kJ, kJ, kJ, kJ, .x, kJ, kJ, kJ, .x] xs := hf
 obtain ⟨S, hS, now, hnow, bu, hbu, le, hle, mo, hmo, T, hT, h, hh, ln, hln, vn, hvn, D, hD, rfl⟩ := Fu hf
 simp only [An] at hnow hbu hle hmo hh hln hvn
 obtain ⟨ρ, hρ, hd⟩ := solve (F := l.F) 10 OA (by kernel_rfl) [S, now, bu, le, mo, T, h, ln, vn, D]
 have hDf := MR (by kernel_rfl) hd
 refine ⟨ρ, hρ, ?_⟩
 have hρe := Fv hρ (Nat.le_refl _)
 simp only [eqL, Nat.reduceAdd] at hρe
 obtain ⟨v1, hv1, hd1, hn1⟩ := nmd hd 0 rfl
 simp only [An] at hn1
 have hSS := Jj (Jj (Jj F16 (Jj F334 hρe)) (Jj hnow (Jj hbu hle))) (Jj (Jj hmo (Jj hh hln)) (Jj (Jj hvn hv1) (Jj hn1 hDf)))
 simp (disch := omega) only [An, Ent.nm_fn, hSS, ewY, ewB, ewM, ewQ, reduceCtorEq, seval] at hd1
 have y : e16.pre [S, now, bu, le, mo, T] := hp
 have y34 : z34.pre [S, now, bu, le, mo, T, h, ln, vn, D] := trivial
 refine ⟨?_, ?_, trivial⟩
 all_goals simp (disch := omega) only [OB, T4, z23, ewY, ewB, ewM, ewQ, reduceCtorEq, seval, hSS, y, y34]
 exact hd1.symm
theorem U2 : EntryOK Try.prog G0 z22 := Jo.nm.entryR Az Ws _ rfl _ rfl fun xs hf hp => by
 obtain ⟨l, hl, hF⟩ := AK (l0 := cZ1n.l)
 show ∃ ρ : Nat -> Int, _ /\ OG.tt cZ1n.l.F ρ = true /\ Ax z22.fn _ cZ1n.l.F ρ _ _ _
 rw [hl]
 have F29 := FC (k := 100000029) rfl (hF e29.nm (by rfl) (by decide))
 have F334 := FC (k := 100000334) rfl (hF z34.nm (by rfl) (by decide))
 replace hf : fits [.x, kJ, kJ, kJ, kJ, .x, kJ, kJ, kJ, .x, kJ] xs := hf
 obtain ⟨S, hS, now, hnow, bu, hbu, le, hle, mo, hmo, T, hT, h, hh, ln, hln, vn, hvn, D, hD, i, hi, rfl⟩ := Fu hf
 simp only [An] at hnow hbu hle hmo hh hln hvn hi
 obtain ⟨ρ, hρ, hd⟩ := solve (F := l.F) 11 OE (by kernel_rfl) [S, now, bu, le, mo, T, h, ln, vn, D, i]
 have hDf := MR (by kernel_rfl) hd
 refine ⟨ρ, hρ, ?_⟩
 have hρe := Fv hρ (Nat.le_refl _)
 simp only [eqL, Nat.reduceAdd] at hρe
 obtain ⟨⟨v1, hv1, hd1, hn1⟩, ⟨v2, hv2, hd2, hn2⟩⟩ := Jj (nmd hd 0 rfl) (nmd hd 1 rfl)
 simp only [An] at hn1
 have hSS := Jj (Jj (Jj (Jj F29 F334) (Jj hρe hnow)) (Jj (Jj hbu hle) (Jj hmo hh))) (Jj (Jj (Jj hln hvn) (Jj hi hv1)) (Jj (Jj hn1 hv2) (Jj hn2 hDf)))
 simp (disch := omega) only [An, LY, Ent.nm_fn, hSS, ewY, ewB, ewM, ewQ, reduceCtorEq, seval] at hd1 hd2
 have y : e29.pre [S, now, bu, le, mo, T, i] := hp
 have y34 : z34.pre [S, now, bu, le, mo, T, h, ln, vn, D] := trivial
 refine ⟨?_, ?_, ?_, trivial⟩
 all_goals simp (disch := omega) only [OG, T6, z22, ewY, ewB, ewM, ewQ, reduceCtorEq, seval, hSS, y, y34]
 ·exact hd1.symm
 ·exact hd2.symm
theorem okz21 : EntryOK Try.prog G0 z21 := Jo.nm.entryR Az Wr _ rfl _ rfl fun xs hf hp => by
 obtain ⟨l, hl, hF⟩ := AK (l0 := cZ1n.l)
 show ∃ ρ : Nat -> Int, _ /\ Ls.tt cZ1n.l.F ρ = true /\ Ax z21.fn _ cZ1n.l.F ρ _ _ _
 rw [hl]
 have F334 := FC (k := 100000334) rfl (hF z34.nm (by rfl) (by decide))
 have F336 := FC (k := 100000336) rfl (hF z36.nm (by rfl) (by decide))
 replace hf : fits [.x, kJ, kJ, kJ, kJ, .x, kJ, kJ, kJ, .x, kJ] xs := hf
 obtain ⟨S, hS, now, hnow, bu, hbu, le, hle, mo, hmo, T, hT, h, hh, ln, hln, vn, hvn, D, hD, i, hi, rfl⟩ := Fu hf
 simp only [An] at hnow hbu hle hmo hh hln hvn hi
 obtain ⟨ρ, hρ, hd⟩ := solve (F := l.F) 11 OC (by kernel_rfl) [S, now, bu, le, mo, T, h, ln, vn, D, i]
 have hDf := MR (by kernel_rfl) hd
 refine ⟨ρ, hρ, ?_⟩
 have hρe := Fv hρ (Nat.le_refl _)
 simp only [eqL, Nat.reduceAdd] at hρe
 obtain ⟨v1, hv1, hd1, hn1⟩ := nmd hd 0 rfl
 have hSS := Jj (Jj (Jj F334 (Jj F336 hρe)) (Jj (Jj hnow hbu) (Jj hle hmo))) (Jj (Jj hh (Jj hln hvn)) (Jj (Jj hi hv1) (Jj hn1 hDf)))
 simp (disch := omega) only [An, Ent.nm_fn, hSS, ewY, ewB, ewM, ewQ, reduceCtorEq, seval] at hd1
 obtain ⟨p1, p2⟩ := hp
 have y36 : z36.pre [S, now, bu, le, mo, T, h, ln, vn, D, i] := p1
 have y34 : z34.pre [S, now, bu, le, mo, T, h, ln, vn, D] := trivial
 replace p1 : ((dc D).length : Int) <= 4096 := p1
 replace p2 : rowsOK intK (dc D) := p2
 have z : v1 = b2i (decide (0 <= i) && decide (i < ((dc D).length : Int))) := hd1.trans (by show K.b.norm (b2i (decide (0 <= i) && decide (i < ((dc D).length : Int)))) = _; cases (decide (0 <= i) && decide (i < ((dc D).length : Int))) <;> rfl)
 by_cases hr : 0 <= i /\ i < ((dc D).length : Int)
 ·have z1 : v1 = 1 := by rw [z, decide_eq_true hr.1, decide_eq_true hr.2]; rfl
  have c0 := rowsC p2 (i := i.toNat) (j := 0) (by omega) rfl
  refine ⟨?_, ?_, ?_, trivial⟩
  all_goals simp (disch := omega) only [Ls, Jn, GR, OD, z21, fn21z, riD, lenD, DZ, ewY, ewB, ewM, ewQ, reduceCtorEq, seval, hSS, y36, y34, z1, hr, AF, c0]
  ·split
   ·rename_i hz; exact hz
   ·rfl
  ·by_cases hz : gC (dc D) i.toNat 0 = 0
   ·simp [hz]
   ·rw [show (gC (dc D) i.toNat 0 == 0) = false from beq_eq_false_iff_ne.2 hz]; simp [hz]
 ·have z1 : v1 = 0 := by
   rw [z]; have : ¬ (decide (0 <= i) && decide (i < ((dc D).length : Int))) = true := by simp; omega
   simp only [Bool.not_eq_true] at this
   rw [this]; rfl
  refine ⟨?_, ?_, ?_, trivial⟩
  all_goals simp (disch := omega) only [Ls, Jn, GR, OD, z21, fn21z, riD, lenD, DZ, ewY, ewB, ewM, ewQ, reduceCtorEq, seval, hSS, y36, y34, z1, hr]
  rfl
structure LZ (S now bu le mo T h ln vn D c : Int) (d a : Nat -> Int) (B : List Nat) : Prop where
 w : WV S now bu le mo T c a B
 hd : 1 <= h /\ h <= 4096
 ln : ln = le
 rD : rowsOK intK (dc D)
 cp : ((dc D).length : Int) = c
 dl : ∀ i : Nat, (i : Int) < c -> gC (dc D) i 0 = d i
 ad : ∀ i : Nat, (i : Int) < c -> (a i = 0 ↔ d i = 0) /\ a i <= d i /\ d i <= now + 2147483648
 vb : 0 <= vn /\ vn <= 1125899906842624
def LVx (xs : List Int) (c : Int) (d a : Nat -> Int) (B : List Nat) : Prop := LZ (env xs 0) (env xs 1) (env xs 2) (env xs 3) (env xs 4) (env xs 5) (env xs 6) (env xs 7) (env xs 8) (env xs 9) c d a B
def preZ (xs : List Int) : Prop := ∃ c d a B, LVx xs c d a B
def U3 (xs ys : List Int) : Prop := ∀ j, j < 10 -> env ys j = env xs j
def newZ (n c b h : Int) : Prop := newW n c b /\ 1 <= h /\ h <= 4096
def pre12 (xs : List Int) : Prop := newZ (env xs 0) (env xs 1) (env xs 2) (env xs 3)
def kW6 : List K := [.x, .i .i64, .i .i64, .i .i64, .i .i64, .x]
def kW7 : List K := [.x, .i .i64, .i .i64, .i .i64, .i .i64, .x, .i .i64]
def wp6 (ys : List Int) : List Int := [env ys 0, env ys 1, env ys 2, env ys 3, env ys 4, env ys 5]
def OH (xs ys : List Int) : Prop := Ah e13.fn [env xs 0, env xs 1, env xs 2] 0 kW6 (wp6 ys) /\ LVx ys (env xs 1) (fun _ => 0) (fun _ => 0) [] /\ env ys 1 = env xs 0 /\ env ys 2 = env xs 2 /\ env ys 4 = 0 /\ env ys 6 = env xs 3 /\ env ys 8 = 0
def b12 : Ent := ⟨312, 12, [i64, i64, i64, i64], [], [], .tup [lzS, .lt kJ 0], z0, pre12⟩
def ex13 (xs ys : List Int) : Prop := (0 <= env xs 10 /\ env xs 10 < lenD xs) /\ env xs 1 < env xs 11 /\ env xs 11 <= env xs 1 + 2147483648 -> if gC (TW xs) (env xs 10).toNat 4 = 0 \/ env xs 11 < gC (TW xs) (env xs 10).toNat 4 then ∃ e, Ah e14.fn (wp6 xs ++ [env xs 10, env xs 11]) 0 kW7 (wp6 ys ++ [e]) else wp6 ys = wp6 xs
def GS (xs ys : List Int) : Prop := ex13 xs ys /\ ∀ c d a B, LVx xs c d a B ->
 (((0 <= env xs 10 /\ env xs 10 < c) /\ env xs 1 < env xs 11 /\ env xs 11 <= env xs 1 + 2147483648 ->
   LVx ys c (upD d (env xs 10).toNat (env xs 11)) (if a (env xs 10).toNat = 0 \/ env xs 11 < a (env xs 10).toNat then upD a (env xs 10).toNat (env xs 11) else a) B /\ env ys 10 = 0 /\ env ys 1 = env xs 1 /\ env ys 2 = env xs 2 /\ env ys 4 = env xs 4 /\ env ys 6 = env xs 6 /\ env ys 8 = env xs 8) /\
 (¬ ((0 <= env xs 10 /\ env xs 10 < c) /\ env xs 1 < env xs 11 /\ env xs 11 <= env xs 1 + 2147483648) -> env ys 10 = 2 /\ U3 xs ys))
def b13 : Ent := ⟨313, 13, [lzS, i64, i64], [wobL, lzO], [], i64, z0, preZ⟩
def ex19 (xs ys : List Int) : Prop := ∃ e, Ah e24.fn (wp6 xs ++ [env xs 10]) 0 kW7 (wp6 ys ++ [e])
def OI (xs ys : List Int) : Prop := ex19 xs ys /\ ∀ c d a B, LVx xs c d a B ->
 ((0 <= env xs 10 /\ env xs 10 < c ->
   LVx ys c (upD d (env xs 10).toNat 0) (upD a (env xs 10).toNat 0) (B.erase (env xs 10).toNat) /\ env ys 10 = (if d (env xs 10).toNat = 0 then 6 else 0) /\ env ys 1 = env xs 1 /\ env ys 2 = env xs 2 /\ env ys 4 = env xs 4 /\ env ys 6 = env xs 6 /\ env ys 8 = env xs 8) /\
 (¬ (0 <= env xs 10 /\ env xs 10 < c) -> env ys 10 = 2 /\ U3 xs ys))
def b19z : Ent := ⟨319, 19, [lzS, i64], [wobL, lzO], [], i64, z0, preZ⟩
def cZ2 : Ctx := ⟨[z34, z36, e18, e29, e14, e24, e13], []⟩
def z12 : Ent := b12.fw (fnG Try.prog G0 b12 OH)
def z13 : Ent := b13.fw (fnG Try.prog G0 b13 GS)
def z19 : Ent := b19z.fw (fnG Try.prog G0 b19z OI)
theorem Rs : cZ2.OK Try.prog G0 := by
 have h : Ctx.OK Try.prog G0 ⟨[z34, z36, e18, e29, e14, e24, e13], []⟩ := ((((((Ctx.OK.nil.addF ok13 rfl).addF ok24 rfl).addF ok14 rfl).addF ok29 rfl).addF ok18 rfl).addF UY rfl).addF Rr rfl
 exact h
theorem rowsOK.set {T : RL} {i : Nat} {v : Int} (h : rowsOK intK T) (hi : i < T.length) (hv : IntKind.i64.wrap v = v) : rowsOK intK (setC T i 0 [v]) := by
 intro r hr
 obtain ⟨k, hk, rfl⟩ := List.mem_iff_getElem.1 hr
 have e : (setC T i 0 [v]).getD k [] = (setC T i 0 [v])[k] := by rw [List.getD_eq_getElem?_getD, List.getElem?_eq_getElem hk]; rfl
 rw [<- e, JY T k 0 [v] hi]
 have hl := hk
 rw [Bx] at hl
 by_cases hh : k = i
 ·subst hh
  rw [if_pos rfl]
  have : T.getD k [] = T[k] := by rw [List.getD_eq_getElem?_getD, List.getElem?_eq_getElem hl]; rfl
  obtain ⟨a, ha, _⟩ := Rj (h _ (List.getElem_mem hl))
  rw [this, ha]
  exact ⟨hv, trivial⟩
 ·rw [if_neg hh, List.getD_eq_getElem?_getD, List.getElem?_eq_getElem hl]
  exact h _ (List.getElem_mem hl)
theorem PR {T : RL} {i : Nat} {v : Int} (h : rowsOK intK T) (hi : i < T.length) (y : Nat) : gC (setC T i 0 [v]) y 0 = if y = i then v else gC T y 0 := by
 have hl : (T.getD i []).length = 1 := by
  obtain ⟨a, ha, _⟩ := Rj (h _ (List.getElem_mem hi))
  rw [List.getD_eq_getElem?_getD, List.getElem?_eq_getElem hi, Option.getD_some, ha]; rfl
 rw [PA hi (by omega)]
 by_cases h : y = i <;> simp [h]
section
variable {S now bu le mo T h ln vn D c : Int} {d a : Nat -> Int} {B : List Nat}
theorem LZ.dr (hz : LZ S now bu le mo T h ln vn D c d a B) {i : Nat} (hi : (i : Int) < c) : 0 <= d i /\ d i <= now + 2147483648 := by
 have := hz.ad i hi
 have := hz.w.dr hi
 omega
theorem LZ.lnr (hz : LZ S now bu le mo T h ln vn D c d a B) : 0 <= ln /\ ln <= 4096 := by
 have := hz.ln
 have := hz.w.ler
 omega
theorem LZ.eqs {c' : Int} {d' a' : Nat -> Int} {B' : List Nat} (hz : LZ S now bu le mo T h ln vn D c d a B) (hz' : LZ S now bu le mo T h ln vn D c' d' a' B') : c' = c /\ ∀ i : Nat, (i : Int) < c -> a' i = a i /\ d' i = d i := by
 have e : c' = c := hz'.cp.symm.trans hz.cp
 subst e
 exact ⟨rfl, fun i hi => ⟨(hz'.w.dl i hi).symm.trans (hz.w.dl i hi), (hz'.dl i hi).symm.trans (hz.dl i hi)⟩⟩
theorem LZ.put {S' bu' le' mo' T' h ln' D' vn' x e : Int} {i : Nat} {B' : List Nat} (hz : LZ S now bu le mo T h ln vn D c d a B) (hi : (i : Int) < c) (hD : D' = cd (setC (dc D) i 0 [x])) (hw : WV S' now bu' le' mo' T' c (upD a i e) B') (hl : ln' = le') (hx : x <= now + 2147483648) (h0 : e = 0 ↔ x = 0) (h1 : e <= x) (hv : 0 <= vn' /\ vn' <= 1125899906842624) : LZ S' now bu' le' mo' T' h ln' vn' D' c (upD d i x) (upD a i e) B' := by
 have htm := hz.w.tm
 have hcp := hz.cp
 have hwd := hw.dr hi
 rw [AZ] at hwd
 have hl' : i < (dc D).length := by omega
 subst hD
 refine ⟨hw, hz.hd, hl, ?_, ?_, fun y hy => ?_, fun y hy => ?_, hv⟩
 ·rw [Ab]; exact hz.rD.set hl' (i64w (by omega) (by omega))
 ·rw [Ab, Bx]; exact hcp
 ·rw [Ab, PR hz.rD hl']; unfold upD; split
  ·rfl
  ·exact hz.dl y hy
 ·by_cases hh : y = i
  ·subst hh
   rw [AZ, AZ]
   exact ⟨h0, h1, hx⟩
  ·rw [As _ _ hh, As _ _ hh]; exact hz.ad y hy
theorem Fy {d : Nat -> Int} {i : Nat} {v : Int} (h : d i = v) : upD d i v = d := by
 funext y
 by_cases e : y = i
 ·subst e; rw [AZ, h]
 ·exact As _ _ e
end
theorem Na : EPz z12 OH := by
 refine Rs.nm.entryK false [(100000013, e13.nm)] ?_
 go_invoke
 refine enK rfl ?_
 intro l ρ n hn c hc b hb h hh hp v1 v2 hn2 v3 hn3 v4 hn4 v5 hn5 v6 hSS hd
 simp (disch := omega) only [and_true, Ent.nm_fn, hSS, ewZ, reduceCtorEq, seval] at hd
 obtain ⟨hd1, hd2, hd3, hd4, hd5, hd6⟩ := hd
 obtain ⟨p1, p2, p3⟩ := hp
 replace p1 : newW n c b := p1
 replace p2 : 1 <= h := p2
 replace p3 : h <= 4096 := p3
 have q := WV.new p1 ⟨hd1, hd2, hd3, hd4, hd5, hd6, trivial⟩
 have y : e13.pre [n, c, b] := p1
 refine ⟨?_, ?_⟩
 ·simp (disch := omega) only [ewZ, reduceCtorEq, seval, hSS, y]
  refine ⟨fun _ => by unfold newW at p1; omega, ⟨⟨p2, p3⟩, if_neg (by omega)⟩, p2, p3⟩
 ·simp (disch := omega) only [ewZ, reduceCtorEq, seval, hSS]
  obtain ⟨q1, q2, q3, q4, q5, q6⟩ := q
  unfold newW at p1
  have hw : LZ v1 v2 v3 v4 v5 v6 h 0 0 (cd (List.replicate c.toNat [0])) c (fun _ => 0) (fun _ => 0) [] := by
   refine ⟨q1, ⟨p2, p3⟩, q4.symm, ?_, ?_, fun i hi => ?_, fun i hi => ⟨Iff.rfl, Int.le_refl _, by rw [q2]; show (0 : Int) <= n + 2147483648; omega⟩, by decide⟩
   ·rw [Ab]
    intro r hr
    rw [List.eq_of_mem_replicate hr]
    exact ⟨rfl, trivial⟩
   ·rw [Ab, List.length_replicate]; omega
   ·rw [Ab]
    unfold gC
    rw [show (List.replicate c.toNat [0] : RL).getD i [] = [0] by rw [List.getD_eq_getElem?_getD, List.getElem?_replicate, if_pos (by omega)]; rfl]; rfl
  exact ⟨⟨hd1, hd2, hd3, hd4, hd5, hd6, trivial⟩, hw, q2, q3, q5, rfl, rfl⟩
theorem Lt : EPz z13 GS := by
 refine Rs.nm.entryK false [(100000014, e14.nm), (100000018, e18.nm), (100000029, e29.nm), (100000334, z34.nm), (100000336, z36.nm)] ?_
 go_invoke
 refine enK rfl ?_
 intro l ρ S now hnow bu hbu le hle mo hmo T h hh ln hln vn hvn D i hi x hx hp v1 hn1 v2 hn2 v3 hn3 v4 hn4 v5 v6 hn6 v7 hn7 v8 hn8 v9 hn9 v10 v11 hn11 hSS hd
 simp (disch := omega) only [and_true, Ent.nm_fn, hSS, ewZ, reduceCtorEq, seval] at hd
 obtain ⟨hd1, hd2, hd3, hd4, hd5, hd6, hd7, hd8, hd9, hd10, hd11⟩ := hd
 obtain ⟨c, d, a, B, hz⟩ := hp
 replace hz : LZ S now bu le mo T h ln vn D c d a B := hz
 have hw := hz.w
 have htm := hw.tm
 have hct := hw.ct
 have hcp := hz.cp
 have hln := hz.lnr
 have y34 : z34.pre [S, now, bu, le, mo, T, h, ln, vn, D] := trivial
 have y18 : e18.pre [S, now, bu, le, mo, T] := hw.lenOK []
 have y36 : z36.pre [S, now, bu, le, mo, T, h, ln, vn, D, i] := by
  show ((dc D).length : Int) <= 4096; omega
 have y29 : e29.pre [S, now, bu, le, mo, T, i] := hw.preR i
 have y14 : e14.pre [S, now, bu, le, mo, T, i, x] := hw.wx2 _ _
 have z1 := hw.nowV hd1
 have z2 : v2 = b2i (decide (0 <= i) && decide (i < ((dc D).length : Int))) := hd2.trans (by show K.b.norm (b2i (decide (0 <= i) && decide (i < ((dc D).length : Int)))) = _; cases (decide (0 <= i) && decide (i < ((dc D).length : Int))) <;> rfl)
 have b2 : i2b v2 = true ↔ (0 <= i /\ i < c) := by rw [z2, D1, Bool.and_eq_true, decide_eq_true_iff, decide_eq_true_iff, hcp]
 have wx : IntKind.i64.wrap (now + 2147483648) = now + 2147483648 := i64w (by omega) (by omega)
 have wD : IntKind.i64.wrap (((dc D).length : Nat) : Int) = c := by rw [hcp]; exact i64w (by omega) (by omega)
 subst z1
 by_cases hb : (0 <= i /\ i < c) /\ v1 < x /\ x <= v1 + 2147483648
 ·obtain ⟨hi, hx1, hx2⟩ := hb
  obtain ⟨z3, z4⟩ := hw.dead hi ⟨hd3, hd4, trivial⟩
  have hic : (i.toNat : Int) < c := by omega
  obtain ⟨ad1, ad2, ad3⟩ := hz.ad i.toNat hic
  have hadr := hw.dr hic
  have b4 : i2b v4 = true ↔ a i.toNat ≠ 0 := by rw [z4, D1, decide_eq_true_iff]
  have b4' : i2b v4 = false ↔ a i.toNat = 0 := by rw [<- Bool.not_eq_true, b4]; simp
  subst z3
  obtain ⟨q1, q2, q3, q4, q5, q6, _⟩ := hw.arm hi ⟨hx1, hx2⟩ ⟨hd5, hd6, hd7, hd8, hd9, hd10, hd11, trivial⟩
  have hB : a i.toNat = 0 \/ x < a i.toNat -> B.erase i.toNat = B := fun hh => List.erase_of_not_mem fun hm => by
   have := (hw.mem i.toNat).1 hm
   omega
  have hn : ¬ v1 + 2147483648 < x := by omega
  refine ⟨?_, ?_⟩
  ·simp (disch := omega) only [ewZ, reduceCtorEq, seval, hSS, y34, y18, y36, y29, y14, wx, b2, b4, b4', wD, hi, hx1, hx2]
   exact ⟨fun h => absurd h hn, id, id⟩
  ·simp (disch := omega) only [ewZ, reduceCtorEq, seval, hSS, wx, b2, b4, b4', hi, hx1, hx2]
   simp only [if_neg hn]
   have hle := hz.ln
   by_cases hc : a i.toNat = 0 \/ x < a i.toNat
   ·have hcc : ¬a i.toNat = 0 -> x < a i.toNat := fun h => hc.resolve_left h
    simp only [if_pos hcc]
    refine ⟨fun _ => ?_, ?_⟩
    ·have ce : gC (dc T) i.toNat 4 = a i.toNat := hw.dl i.toNat hic
     show if gC (dc T) i.toNat 4 = 0 \/ x < gC (dc T) i.toNat 4 then _ else _
     rw [ce, if_pos hc]
     exact ⟨v11, ⟨hd5, hd6, hd7, hd8, hd9, hd10, hd11, trivial⟩⟩
    intro c' d' a' B' hz'
    replace hz' : LZ S v1 bu le mo T h ln vn D c' d' a' B' := hz'
    obtain ⟨rfl, hea⟩ := hz.eqs hz'
    obtain ⟨ea, ed⟩ := hea i.toNat hic
    refine ⟨fun _ => ?_, fun hh => absurd ⟨hi, hx1, hx2⟩ hh⟩
    obtain ⟨q1, q2, q3, q4, q5, q6, _⟩ := hz'.w.arm hi ⟨hx1, hx2⟩ ⟨hd5, hd6, hd7, hd8, hd9, hd10, hd11, trivial⟩
    have hB : B'.erase i.toNat = B' := List.erase_of_not_mem fun hm => by
     have := (hz'.w.mem i.toNat).1 hm
     omega
    rw [hB] at q1
    show LZ v5 v6 v7 v8 v9 v10 h (ln + if a i.toNat = 0 then 1 else 0) vn _ c' (upD d' i.toNat x) (if a' i.toNat = 0 \/ x < a' i.toNat then upD a' i.toNat x else a') B' /\ (0 : Int) = 0 /\ v6 = v1 /\ v7 = bu /\ v9 = mo /\ h = h /\ vn = vn
    rw [if_pos (show a' i.toNat = 0 \/ x < a' i.toNat by rw [ea]; exact hc)]
    have q1' := q1
    rw [q2] at q1'
    refine ⟨?_, rfl, q2, q3, q4, rfl, rfl⟩
    rw [q2]
    refine hz'.put hic rfl q1' ?_ hx2 Iff.rfl (Int.le_refl _) hz'.vb
    rw [q6, hle, ea]
    by_cases ha : a i.toNat = 0
    ·rw [if_pos ha, if_neg (by omega)]
    ·rw [if_neg ha, if_pos (by omega)]; omega
   ·have hcc : ¬ (¬a i.toNat = 0 -> x < a i.toNat) := fun h => hc (by omega)
    simp only [if_neg hcc, if_neg (show ¬ a i.toNat = 0 by omega)]
    refine ⟨fun _ => ?_, ?_⟩
    ·have ce : gC (dc T) i.toNat 4 = a i.toNat := hw.dl i.toNat hic
     show if gC (dc T) i.toNat 4 = 0 \/ x < gC (dc T) i.toNat 4 then _ else _
     rw [ce, if_neg hc]; rfl
    intro c' d' a' B' hz'
    replace hz' : LZ S v1 bu le mo T h ln vn D c' d' a' B' := hz'
    obtain ⟨rfl, hea⟩ := hz.eqs hz'
    obtain ⟨ea, ed⟩ := hea i.toNat hic
    refine ⟨fun _ => ?_, fun hh => absurd ⟨hi, hx1, hx2⟩ hh⟩
    show LZ S v1 bu le mo T h (ln + 0) vn _ c' (upD d' i.toNat x) (if a' i.toNat = 0 \/ x < a' i.toNat then upD a' i.toNat x else a') B' /\ (0 : Int) = 0 /\ v1 = v1 /\ bu = bu /\ mo = mo /\ h = h /\ vn = vn
    rw [if_neg (show ¬ (a' i.toNat = 0 \/ x < a' i.toNat) by rw [ea]; exact hc), Int.add_zero]
    refine ⟨?_, rfl, rfl, rfl, rfl, rfl, rfl⟩
    have q := hz'.put (x := x) (e := a' i.toNat) hic rfl (by rw [Fy rfl]; exact hz'.w) hle hx2 (by omega) (by omega) hz'.vb
    rw [Fy rfl] at q
    exact q
 ·have hb' : (0 <= i /\ i < c) /\ v1 < x -> v1 + 2147483648 < x := by omega
  refine ⟨?_, ?_⟩
  ·simp (disch := omega) only [ewZ, reduceCtorEq, seval, hSS, y34, y18, y36, y29, y14, wx, b2, wD]
   refine ⟨fun hh => absurd hh.2 (by omega), fun _ hh => absurd hh.2 (by omega), fun hh => absurd hh.2 (by omega)⟩
  ·simp (disch := omega) only [ewZ, reduceCtorEq, seval, hSS, wx, b2, if_pos hb']
   refine ⟨fun hh => absurd (show (0 <= i /\ i < c) /\ v1 < x /\ x <= v1 + 2147483648 from ⟨⟨hh.1.1, by rw [<- hcp]; exact hh.1.2⟩, hh.2⟩) hb, ?_⟩
   intro c' d' a' B' hz'
   replace hz' : LZ S v1 bu le mo T h ln vn D c' d' a' B' := hz'
   obtain ⟨rfl, hea⟩ := hz.eqs hz'
   refine ⟨fun hh => absurd hh hb, fun _ => ⟨rfl, fun j hj => ?_⟩⟩
   have e : IntKind.i64.wrap (ln + 0) = ln := by rw [Int.add_zero]; exact i64w (by omega) (by omega)
   match j, hj with
   | 0, _ | 1, _ | 2, _ | 3, _ | 4, _ | 5, _ | 6, _ | 8, _ | 9, _ => rfl
   | 7, _ => first | exact e | exact Int.add_zero ln
theorem Rt : EPz z19 OI := by
 refine Rs.nm.entryK false [(100000024, e24.nm), (100000334, z34.nm)] ?_
 go_invoke
 refine enK rfl ?_
 intro l ρ S now hnow bu hbu le hle mo hmo T h hh ln hln vn hvn D i hi hp v1 v2 hn2 v3 hn3 v4 hn4 v5 hn5 v6 v7 hn7 hSS hd
 simp (disch := omega) only [and_true, Ent.nm_fn, hSS, ewZ, reduceCtorEq, seval] at hd
 obtain ⟨hd1, hd2, hd3, hd4, hd5, hd6, hd7⟩ := hd
 obtain ⟨c, d, a, B, hz⟩ := hp
 replace hz : LZ S now bu le mo T h ln vn D c d a B := hz
 have hw := hz.w
 have htm := hw.tm
 have hct := hw.ct
 have hcp := hz.cp
 have hln := hz.lnr
 have wD : IntKind.i64.wrap (((dc D).length : Nat) : Int) = c := by rw [hcp]; exact i64w (by omega) (by omega)
 have y34 : z34.pre [S, now, bu, le, mo, T, h, ln, vn, D] := trivial
 have y24 : e24.pre [S, now, bu, le, mo, T, i] := hw.wx1 _
 by_cases hi : 0 <= i /\ i < c
 ·have hic : (i.toNat : Int) < c := by omega
  obtain ⟨ad1, ad2, ad3⟩ := hz.ad i.toNat hic
  obtain ⟨q1, q2, q3, q4, q5, q6, _⟩ := hw.can hi ⟨hd1, hd2, hd3, hd4, hd5, hd6, hd7, trivial⟩
  by_cases hd : a i.toNat = 0
  ·have z7 : v7 = 6 := by rw [q5, if_pos hd]
   refine ⟨?_, ?_⟩
   ·simp (disch := omega) only [ewZ, reduceCtorEq, seval, hSS, y34, y24, wD, z7, hi]
   ·simp (disch := omega) only [ewZ, reduceCtorEq, seval, hSS, z7]
    refine ⟨⟨v7, ⟨hd1, hd2, hd3, hd4, hd5, hd6, hd7, trivial⟩⟩, ?_⟩
    intro c' d' a' B' hz'
    replace hz' : LZ S now bu le mo T h ln vn D c' d' a' B' := hz'
    obtain ⟨rfl, hea⟩ := hz.eqs hz'
    obtain ⟨ea, ed⟩ := hea i.toNat hic
    refine ⟨fun _ => ?_, fun hh => absurd hi hh⟩
    obtain ⟨q1, q2, q3, q4, q5, q6, _⟩ := hz'.w.can hi ⟨hd1, hd2, hd3, hd4, hd5, hd6, hd7, trivial⟩
    show LZ _ _ _ _ _ _ _ _ _ _ c' (upD d' i.toNat 0) (upD a' i.toNat 0) (B'.erase i.toNat) /\ (6 : Int) = (if d' i.toNat = 0 then 6 else 0) /\ _
    rw [Fy (d := d') (by rw [ed]; exact ad1.1 hd), if_pos (by rw [ed]; exact ad1.1 hd)]
    refine ⟨⟨q1, hz'.hd, ?_, hz'.rD, hz'.cp, hz'.dl, ?_, hz'.vb⟩, rfl, q2, q3, q4, rfl, rfl⟩
    ·rw [q6, if_pos (by rw [ea]; exact hd)]; exact hz'.ln
    ·show ∀ y : Nat, (y : Int) < c' -> (upD a' i.toNat 0 y = 0 ↔ d' y = 0) /\ upD a' i.toNat 0 y <= d' y /\ d' y <= v2 + 2147483648
     rw [Fy (by rw [ea]; exact hd), q2]; exact hz'.ad
  ·have z7 : v7 = 0 := by rw [q5, if_neg hd]
   refine ⟨?_, ?_⟩
   ·simp (disch := omega) only [ewZ, reduceCtorEq, seval, hSS, y34, y24, wD, z7, hi]
   ·simp (disch := omega) only [ewZ, reduceCtorEq, seval, hSS, z7]
    refine ⟨⟨v7, ⟨hd1, hd2, hd3, hd4, hd5, hd6, hd7, trivial⟩⟩, ?_⟩
    intro c' d' a' B' hz'
    replace hz' : LZ S now bu le mo T h ln vn D c' d' a' B' := hz'
    obtain ⟨rfl, hea⟩ := hz.eqs hz'
    obtain ⟨ea, ed⟩ := hea i.toNat hic
    refine ⟨fun _ => ?_, fun hh => absurd hi hh⟩
    obtain ⟨q1, q2, q3, q4, q5, q6, _⟩ := hz'.w.can hi ⟨hd1, hd2, hd3, hd4, hd5, hd6, hd7, trivial⟩
    have hdn : ¬ d' i.toNat = 0 := by rw [ed]; exact fun h => hd (ad1.2 h)
    show LZ v1 v2 v3 v4 v5 v6 h (ln - 1) vn _ c' (upD d' i.toNat 0) (upD a' i.toNat 0) (B'.erase i.toNat) /\ (0 : Int) = (if d' i.toNat = 0 then 6 else 0) /\ v2 = now /\ v3 = bu /\ v5 = mo /\ h = h /\ vn = vn
    rw [if_neg hdn]
    have q1' := q1
    rw [q2] at q1'
    refine ⟨?_, rfl, q2, q3, q4, rfl, rfl⟩
    rw [q2]
    refine hz'.put hic rfl q1' ?_ (by omega) Iff.rfl (Int.le_refl _) hz'.vb
    rw [q6, hz'.ln, if_neg (by rw [ea]; exact hd)]
 ·obtain ⟨q1, q2⟩ := hw.canB hi ⟨hd1, hd2, hd3, hd4, hd5, hd6, hd7, trivial⟩
  refine ⟨?_, ?_⟩
  ·simp (disch := omega) only [ewZ, reduceCtorEq, seval, hSS, y34, y24, wD, q2]
  ·simp (disch := omega) only [ewZ, reduceCtorEq, seval, hSS, q2]
   refine ⟨⟨v7, ⟨hd1, hd2, hd3, hd4, hd5, hd6, hd7, trivial⟩⟩, ?_⟩
   intro c' d' a' B' hz'
   replace hz' : LZ S now bu le mo T h ln vn D c' d' a' B' := hz'
   obtain ⟨rfl, hea⟩ := hz.eqs hz'
   obtain ⟨rfl, rfl, rfl, rfl, rfl, rfl⟩ := q1
   refine ⟨fun hh => absurd hh hi, fun _ => ⟨rfl, fun j hj => ?_⟩⟩
   match j, hj with
   | 0, _ | 1, _ | 2, _ | 3, _ | 4, _ | 5, _ | 6, _ | 7, _ | 8, _ | 9, _ => rfl
def dlT (L : RL) (i : Int) : Int := if 0 <= fndR L i then (L.getD (fndR L i).toNat []).getD 1 0 else 0
structure TLr (c : Int) (d : Nat -> Int) (L : RL) : Prop where
 r : ∀ r ∈ L, ∃ i : Nat, r = [(i : Int), d i] /\ (i : Int) < c /\ d i ≠ 0
 nd : (L.map fun r => r.headD 0).Nodup
 a : ∀ i : Nat, (i : Int) < c -> d i ≠ 0 -> [(i : Int), d i] ∈ L
theorem OJ (L : RL) (i : Int) : (fndR L i = -1 /\ ∀ r ∈ L, r.headD 0 ≠ i) \/ ∃ r ∈ L, r.headD 0 = i /\ 0 <= fndR L i /\ fndR L i < (L.length : Int) /\ L.getD (fndR L i).toNat [] = r := by
 unfold fndR
 rcases CW (isId i) L with h | ⟨X, r, Y, rfl, h1, h2⟩
 ·refine Or.inl ⟨Ej h, fun r hr e => ?_⟩
  have := h r hr
  unfold isId at this
  rw [e] at this; simp at this
 ·refine Or.inr ⟨r, by simp, by unfold isId at h2; simpa using h2, ?_⟩
  rw [Dq h1 h2]
  refine ⟨by omega, by rw [List.length_append, List.length_cons]; omega, ?_⟩
  rw [show (0 + (X.length : Int)).toNat = X.length by omega]
  simp
theorem TLr.dl {c : Int} {d : Nat -> Int} {L : RL} (h : TLr c d L) (i : Nat) (hi : (i : Int) < c) : dlT L i = d i /\ (0 <= fndR L i ↔ d i ≠ 0) := by
 unfold dlT
 rcases OJ L i with ⟨e, n⟩ | ⟨r, hr, e1, e2, e3, e4⟩
 ·rw [e, if_neg (by omega)]
  by_cases z : d i = 0
  ·exact ⟨z.symm, by omega, fun h => absurd z h⟩
  ·exact absurd rfl (n _ (h.a i hi z))
 ·rw [if_pos e2, e4]
  obtain ⟨j, rfl, hj, hd⟩ := h.r r hr
  have e1 : (j : Int) = (i : Int) := e1
  have e1 : j = i := by omega
  subst e1
  exact ⟨rfl, fun _ => hd, fun _ => e2⟩
theorem TLr.out {c : Int} {d : Nat -> Int} {L : RL} (h : TLr c d L) {i : Int} (hi : ¬ (0 <= i /\ i < c)) : dlT L i = 0 /\ ¬ 0 <= fndR L i := by
 unfold dlT
 rcases OJ L i with ⟨e, n⟩ | ⟨r, hr, e1, e2, e3, e4⟩
 ·rw [e, if_neg (by omega)]; exact ⟨rfl, by omega⟩
 ·obtain ⟨j, rfl, hj, hd⟩ := h.r r hr
  have e1 : (j : Int) = i := e1
  omega
theorem TLr.wi {c : Int} {d : Nat -> Int} {L : RL} (h : TLr c d L) (i : Nat) : TLr c (upD d i 0) (wiR L i) := by
 refine ⟨fun r hr => ?_, h.nd.sublist (List.Sublist.map _ (List.filter_sublist ..)), fun j hj hd => ?_⟩
 ·obtain ⟨h1, h2⟩ := List.mem_filter.1 hr
  obtain ⟨j, rfl, hj, hd⟩ := h.r r h1
  have h2 : ¬ ((j : Int) = (i : Int)) := by simpa using h2
  have h2 : j ≠ i := fun e => h2 (by rw [e])
  exact ⟨j, by rw [As _ _ h2], hj, by rw [As _ _ h2]; exact hd⟩
 ·by_cases e : j = i
  ·subst e; rw [AZ] at hd; exact absurd rfl hd
  ·rw [As _ _ e] at hd ⊢
   refine List.mem_filter.2 ⟨h.a j hj hd, ?_⟩
   have : ¬ ((j : Int) = (i : Int)) := by omega
   simpa using this
theorem TLr.put {c : Int} {d : Nat -> Int} {L : RL} (h : TLr c d L) {i : Nat} {x : Int} (hi : (i : Int) < c) (hx : x ≠ 0) : TLr c (upD d i x) (wiR L i ++ [[(i : Int), x]]) := by
 have w := h.wi i
 have n : ∀ r ∈ wiR L i, r.headD 0 ≠ (i : Int) := fun r hr => by simpa using (List.mem_filter.1 hr).2
 refine ⟨fun r hr => ?_, ?_, fun j hj hd => ?_⟩
 ·rcases List.mem_append.1 hr with hr | hr
  ·obtain ⟨j, rfl, hj, hd⟩ := w.r r hr
   have e : j ≠ i := fun e => n _ hr (by subst e; rfl)
   rw [As _ _ e] at hd ⊢
   exact ⟨j, by rw [As _ _ e], hj, by rw [As _ _ e]; exact hd⟩
  ·obtain rfl := List.mem_singleton.1 hr
   exact ⟨i, by rw [AZ], hi, by rw [AZ]; exact hx⟩
 ·rw [List.map_append, List.nodup_append]
  refine ⟨w.nd, by simp, fun a ha b hb => ?_⟩
  obtain ⟨r, hr, rfl⟩ := List.mem_map.1 ha
  have hb : b = (i : Int) := by simpa using hb
  rw [hb]; exact n r hr
 ·by_cases e : j = i
  ·subst e; rw [AZ]; simp
  ·rw [As _ _ e] at hd ⊢
   have := w.a j hj (by rw [As _ _ e]; exact hd)
   rw [As _ _ e] at this
   exact List.mem_append_left _ this
theorem TLr.len {c : Int} {d : Nat -> Int} {L : RL} (h : TLr c d L) (hd : ∀ i : Nat, (i : Int) < c -> 0 <= d i) : (L.length : Int) = cntP c d := by
 unfold cntP
 have e : (L.map fun r => (r.headD 0).toNat).length = cnt c.toNat fun i => decide (0 < d i) := by
  refine Om ?_ fun i => ?_
  ·have nd := h.nd
   rw [List.nodup_iff_pairwise_ne, List.pairwise_map] at nd ⊢
   refine nd.imp_of_mem fun {r q} hr hq hn e => hn ?_
   obtain ⟨a, rfl, _, _⟩ := h.r r hr
   obtain ⟨b, rfl, _, _⟩ := h.r q hq
   exact congrArg Int.ofNat e
  ·rw [List.mem_map]
   constructor
   ·rintro ⟨r, hr, rfl⟩
    obtain ⟨a, rfl, h1, h2⟩ := h.r r hr
    have := hd a h1
    show a < c.toNat /\ decide (0 < d a) = true
    exact ⟨by omega, decide_eq_true (by omega)⟩
   ·rintro ⟨h1, h2⟩
    have h2 : 0 < d i := of_decide_eq_true h2
    exact ⟨_, h.a i (by omega) (by omega), rfl⟩
 rw [List.length_map] at e
 rw [e]
structure HL where
 A : RL
 B : RL
 T : RL
 O : RL
 V : Int
def hi1 (now i : Int) (x : HL) : HL := if dlT x.T i <= now then { x with T := wiR x.T i, O := x.O ++ [[i]] } else { x with A := puR now (wiR x.A i) i (dlT x.T i), B := wiR x.B i, V := x.V + 1 }
def hs1 (now : Int) (x : HL) : HL := match x.B with
 | [] => x
 | r :: B => hi1 now (r.headD 0) { x with B := B }
def hsN (now : Int) : Nat -> HL -> HL
 | 0, x => x
 | n + 1, x => hsN now n (hs1 now x)
def hiL (now : Int) : List Int -> HL -> HL
 | [], x => x
 | i :: P, x => hiL now P (hi1 now i x)
theorem L0 (now : Int) : ∀ (n : Nat) (x : HL), x.B = [] -> hsN now n x = x
 | 0, _, _ => rfl
 | n + 1, x, h => by
   have e : hs1 now x = x := by unfold hs1; rw [h]
   show hsN now n (hs1 now x) = x
   rw [e]; exact L0 now n x h
theorem hi1_B {now i : Int} {x : HL} (h : ∀ r ∈ x.B, r.headD 0 ≠ i) : (hi1 now i x).B = x.B := by
 unfold hi1
 split
 ·rfl
 ·exact Fx h
theorem U4 (now : Int) : ∀ (n : Nat) (B : RL) (x : HL), (B.map fun r => r.headD 0).Nodup -> x.B = B -> hsN now n x = hiL now ((B.take n).map fun r => r.headD 0) { x with B := B.drop n }
 | 0, B, x, _, h => by subst h; rfl
 | n + 1, [], x, _, h => by
   rw [L0 now _ x h]
   obtain ⟨A, B', T, O, V⟩ := x
   replace h : B' = [] := h
   subst h; rfl
 | n + 1, r :: B, x, hn, h => by
   rw [List.map_cons, List.nodup_cons] at hn
   have hne : ∀ q ∈ B, q.headD 0 ≠ r.headD 0 := fun q hq e => hn.1 (List.mem_map.2 ⟨q, hq, e⟩)
   have e : hs1 now x = hi1 now (r.headD 0) { x with B := B } := by unfold hs1; rw [h]
   show hsN now n (hs1 now x) = hiL now ((B.take n).map fun r => r.headD 0) (hi1 now (r.headD 0) { x with B := B.drop n })
   rw [e, U4 now n B _ hn.2 (hi1_B hne)]
   congr 1
   unfold hi1
   by_cases c : dlT x.T (r.headD 0) <= now
   ·simp only [if_pos c]
   ·simp only [if_neg c]
    rw [Fx (fun q hq => hne q (List.mem_of_mem_drop hq))]
def RVx (xs : List Int) (c : Int) (A B : RL) : Prop := RV (env xs 0) (env xs 1) (env xs 2) (env xs 3) (env xs 4) (env xs 5) c A B
theorem RV.ndB {S now bu le mo T c : Int} {A B : RL} (h : RV S now bu le mo T c A B) : (B.map fun r => r.headD 0).Nodup := by
 obtain ⟨Q, ok, _, rfl⟩ := h.r
 rw [List.map_map]
 have e : ((fun r : List Int => r.headD 0) ∘ rowT (dc T)) = fun i : Nat => (i : Int) := rfl
 rw [e, List.nodup_iff_pairwise_ne, List.pairwise_map]
 refine (List.nodup_iff_pairwise_ne.1 (ok.lk.nd 2048)).imp fun {a b} h e => h ?_
 omega
def k2 : List K := [.i .i64, .i .i64]
def lsT : Sh := .lst 143 (Row.ofKs k2) false
def loT : Sh := .lst 143 (Row.ofKs k2) true
def rzS : Sh := .agg [i64, i64, i64, i64, lsR, lsR, i64, i64, lsT]
def o80 : Sh := .obj 80 [i64, i64, i64, i64, lsR, lsR, i64, i64, lsT]
def okT (c : Int) : Prop := rowsOK k2 (dc c) /\ ((dc c).length : Int) <= capR
def pW19 : List Bool := [true,true,false,true,false]
def preW (xs : List Int) : Prop := okT (env xs 0)
def Nb (xs ys : List Int) : Prop := dc (env ys 0) = wiR (dc (env xs 0)) (env xs 1)
def bW : Ent := ⟨694, 94, [lsT, i64], [], [0], loT, z0, preW⟩
def preWl (xs : List Int) : Prop := okT (env xs 0) /\ 0 <= env xs 3 /\ env xs 3 <= ((dc (env xs 0)).length : Int) /\ ((dc (env xs 2)).length : Int) <= env xs 3
def lbW : LEnt := ⟨⟨9694, 999999, [lsT, i64, loT, i64], [], [0], .tup [loT], z0, preWl⟩, [0, 1, 5, 6], [5], (List.range 22).map (· + 6), [.ex 0], 28, [0]⟩
def leW : LEnt := lbW.fw (fnM Try.prog G0 94 pW19 lbW Lp)
def cW : Ctx := ⟨[], [(94, pW19, leW)]⟩
def eW : Ent := bW.fw (fnG Try.prog G0 bW Nb)
def pD19 : List Bool := [true,false,true,false]
def preDx (xs : List Int) : Prop := okT (env xs 8)
def T7 (xs ys : List Int) : Prop := env ys 0 = dlT (dc (env xs 8)) (env xs 9) /\ env ys 1 = b2i (decide (0 <= fndR (dc (env xs 8)) (env xs 9)))
def bDx : Ent := ⟨666, 66, [rzS, i64], [], [0, 1, 2], .tup [i64, bS], z0, preDx⟩
def foundD (id : Int) (l : RL) (i : Int) (ys : List Int) : Prop :=
 (env ys 0 = 1 /\ ixR (isId id) (l.drop i.toNat) i = -1) \/ (env ys 0 = 0 /\ env ys 2 = 1 /\ 0 <= ixR (isId id) (l.drop i.toNat) i /\ env ys 1 = (l.getD (ixR (isId id) (l.drop i.toNat) i).toNat []).getD 1 0)
def preDl (xs : List Int) : Prop := okT (env xs 9) /\ 0 <= env xs 10 /\ env xs 10 <= ((dc (env xs 9)).length : Int)
def T8 (xs ys : List Int) : Prop := foundD (env xs 0) (dc (env xs 9)) (env xs 10) ys
def muDl (xs : List Int) : Nat := (((dc (env xs 9)).length : Int) - env xs 10).toNat
def lbDl : LEnt := ⟨⟨9666, 999999, [i64, o80, .lt kJ 0, .lt .b 0, i64], [], [0, 1, 2, 3], .tup [.sc .b, i64, .sc .b], z0, preDl⟩, [1, 2, 4, 5, 6], [4, 5], (List.range 22).map (· + 6), [.ex 0, .ret], 28, [2]⟩
def leDl : LEnt := lbDl.fw (fnM Try.prog G0 66 pD19 lbDl T8)
def cDx : Ctx := ⟨[], [(66, pD19, leDl)]⟩
def eDx : Ent := bDx.fw (fnG Try.prog G0 bDx T7)
def preAx (xs : List Int) : Prop := okR (env xs 4) /\ okR (env xs 5)
def T9 (xs ys : List Int) : Prop := env ys 0 = dlR (dc (env xs 4)) (dc (env xs 5)) (env xs 9) /\ env ys 1 = b2i (decide (isR (dc (env xs 4)) (dc (env xs 5)) (env xs 9)))
def bAx : Ent := ⟨667, 67, [rzS, i64], [], [0, 1, 2], .tup [i64, bS], z0, preAx⟩
def cAx : Ctx := ⟨[e106], []⟩
def eAx : Ent := bAx.fw (fnG Try.prog G0 bAx T9)
theorem U5 {L : Int} {i : Int} (h : okT L) (h0 : 0 <= i) (h1 : i < ((dc L).length : Int)) :
 ∃ a b, (dc L).getD i.toNat [] = [a, b] /\ (dc L).drop i.toNat = [a, b] :: (dc L).drop (i + 1).toNat /\ IntKind.i64.wrap a = a /\ IntKind.i64.wrap b = b := by
 obtain ⟨r, er, hr, _, hd⟩ := Gw h.1 h0 h1
 obtain ⟨a, r1, rfl, ha, hr⟩ := AM hr
 obtain ⟨b, r2, rfl, hb, hr⟩ := AM hr
 obtain rfl := Eh hr
 exact ⟨a, b, er, hd, ha, hb⟩
theorem okWl : IPz 94 pW19 leW Lp := by
 refine cIok.nm.loopK muLw false 9694 [] ⟨_, _, _, Try.func94, rfl, rfl⟩ ?_
 go_invoke
 refine enK rfl ?_
 intro φ l ρ L id hid o i hi hp hφ hSS _
 obtain ⟨p1, p2, p3, p4⟩ := hp
 replace p1 : okT L := p1
 simp only [ewY, seval] at p2 p3 p4
 have hcap := p1.2
 unfold capR at hcap
 by_cases hi : i < ((dc L).length : Int)
 ·obtain ⟨a, b, er, hdr, ha, hb⟩ := U5 p1 p2 hi
  have hw := Oq [a, b] ((dc L).drop (i + 1).toNat) id
  rw [<- hdr] at hw
  have ym : ∀ o', muLw [L, id, o', i + 1] < muLw [L, id, o, i] := fun o' => by show (((dc L).length : Int) - (i + 1)).toNat < (((dc L).length : Int) - i).toNat; omega
  by_cases hn : a = id
  ·have yp : lbW.ent.pre [L, id, o, i + 1] := ⟨p1, by show 0 <= i + 1; omega, by show i + 1 <= ((dc L).length : Int); omega, by show ((dc o).length : Int) <= i + 1; omega⟩
   have ih := hφ [L, id, o, i + 1] ⟨rfl, hid, rfl, i64w (by omega) (by omega), trivial⟩ yp (ym _)
   refine ⟨?_, ?_⟩ <;> simp (disch := omega) only [ewZ, reduceCtorEq, seval, hSS, hi, er, ha, hb, hn]
   ·exact ⟨p2, yp, ym _⟩
   ·replace ih : dc (φ 0 [L, id, o, i + 1]) = dc o ++ wiR ((dc L).drop (i + 1).toNat) id := ih
    show dc (φ 0 [L, id, o, i + 1]) = dc o ++ wiR ((dc L).drop i.toNat) id
    rw [ih, hw]; exact congrArg _ (if_pos hn).symm
  ·have hl : ((dc o ++ [[a, b]]).length : Int) = ((dc o).length : Int) + 1 := by simp
   have yp : lbW.ent.pre [L, id, cd (dc o ++ [[a, b]]), i + 1] := ⟨p1, by show 0 <= i + 1; omega, by show i + 1 <= ((dc L).length : Int); omega, by show ((dc (cd (dc o ++ [[a, b]]))).length : Int) <= i + 1; rw [Ab]; omega⟩
   have ih := hφ [L, id, cd (dc o ++ [[a, b]]), i + 1] ⟨rfl, hid, rfl, i64w (by omega) (by omega), trivial⟩ yp (ym _)
   refine ⟨?_, ?_⟩ <;> simp (disch := omega) only [ewZ, reduceCtorEq, seval, hSS, hi, er, ha, hb, hn]
   ·exact ⟨⟨p2, p2, p2, by omega⟩, yp, ym _⟩
   ·replace ih : dc (φ 0 [L, id, cd (dc o ++ [[a, b]]), i + 1]) = dc (cd (dc o ++ [[a, b]])) ++ wiR ((dc L).drop (i + 1).toNat) id := ih
    show dc (φ 0 [L, id, cd (dc o ++ [[a, b]]), i + 1]) = dc o ++ wiR ((dc L).drop i.toNat) id
    rw [ih, hw, Ab, List.append_assoc]; exact congrArg _ (if_neg hn).symm
 ·refine ⟨?_, ?_⟩ <;> simp (disch := omega) only [ewZ, reduceCtorEq, seval, hSS, hi]
  ·show dc o = dc o ++ wiR ((dc L).drop i.toNat) id
   rw [List.drop_of_length_le (by omega)]; exact (List.append_nil _).symm
theorem cWok : cW.OK Try.prog G0 := ⟨rfl, mF trivial, mF ⟨okWl.1, trivial⟩⟩
theorem okW : EPz eW Nb := by
 refine cWok.nm.entryK false [(100009694, leW.nm.ent)] ?_
 go_invoke
 refine enK rfl ?_
 intro l ρ L id hid hp v1 hSS hd1
 simp (disch := omega) only [and_true, Ent.nm_fn, hSS, ewZ, reduceCtorEq, seval] at hd1
 replace hp : okT L := hp
 have d0 : dc (cd ([] : RL)) = [] := Ab _
 have yp : leW.ent.pre [L, id, cd [], 0] := ⟨hp, by show (0 : Int) <= 0; decide, by show (0 : Int) <= ((dc L).length : Int); omega, by show ((dc (cd [])).length : Int) <= 0; rw [d0]; decide⟩
 have q := (PostOK.usf (vs := [v1]) okWl.2 ⟨hd1, trivial⟩) ⟨rfl, hid, rfl, rfl, trivial⟩ yp
 refine ⟨?_, ?_⟩ <;> simp (disch := omega) only [ewZ, reduceCtorEq, seval, hSS]
 ·exact yp
 ·replace q : dc v1 = dc (cd []) ++ wiR ((dc L).drop 0) id := q
  rw [d0, List.nil_append, List.drop_zero] at q
  exact q
theorem foundD.next {id : Int} {l : RL} {i w0 w1 w2 : Int} {r : List Int} (hd : l.drop i.toNat = r :: l.drop (i + 1).toNat) (hr : isId id r = false) (h : foundD id l (i + 1) [w0, w1, w2]) : foundD id l i [w0, w1, w2] := by
 unfold foundD at h ⊢
 rw [hd, Ot hr]
 exact h
theorem okDl : IPz 66 pD19 leDl T8 := by
 refine cIok.nm.loopK muDl false 9666 [] ⟨_, _, _, Try.func66, rfl, rfl⟩ ?_
 go_invoke
 refine enK rfl ?_
 intro φ l ρ id hid nw hnw c0 hc0 bu hbu mo hmo L R hh hhh vn hvn TL i hi hp hφ hSS _
 obtain ⟨p1, p2, p3⟩ := hp
 replace p1 : okT TL := p1
 simp only [ewY, seval] at p2 p3
 have hcap := p1.2
 unfold capR at hcap
 by_cases hi : i < ((dc TL).length : Int)
 ·obtain ⟨a, b, er, hdr, ha, hb⟩ := U5 p1 p2 hi
  by_cases hn : a = id
  ·refine ⟨?_, ?_⟩ <;> simp (disch := omega) only [ewZ, reduceCtorEq, seval, hSS, hi, er, ha, hb, hn]
   ·repeat' (first | (with_reducible apply Jj) | (with_reducible intro _))
    all_goals first | with_reducible assumption | trivial | omega | (split <;> omega)
   ·have e : ixR (isId id) ((dc TL).drop i.toNat) i = i := by rw [hdr, J2 (show isId id [a, b] = true from decide_eq_true hn)]
    refine Or.inr ⟨rfl, by simp [env, b2i], ?_, ?_⟩
    ·show 0 <= ixR (isId id) ((dc TL).drop i.toNat) i
     rw [e]; exact p2
    ·show b = ((dc TL).getD (ixR (isId id) ((dc TL).drop i.toNat) i).toNat []).getD 1 0
     rw [e, er]; rfl
  ·have yp : lbDl.ent.pre [id, nw, c0, bu, mo, L, R, hh, vn, TL, i + 1] := ⟨p1, by show 0 <= i + 1; omega, by show i + 1 <= ((dc TL).length : Int); omega⟩
   have ym : muDl [id, nw, c0, bu, mo, L, R, hh, vn, TL, i + 1] < muDl [id, nw, c0, bu, mo, L, R, hh, vn, TL, i] := by show (((dc TL).length : Int) - (i + 1)).toNat < (((dc TL).length : Int) - i).toNat; omega
   have ih := hφ [id, nw, c0, bu, mo, L, R, hh, vn, TL, i + 1] ⟨hid, hnw, hc0, hbu, hmo, rfl, rfl, hhh, hvn, rfl, i64w (by omega) (by omega), trivial⟩ yp ym
   refine ⟨?_, ?_⟩
   ·simp (disch := omega) only [ewZ, reduceCtorEq, seval, hSS, hi, er, ha, hb, hn]
    repeat' (first | (with_reducible apply Jj) | (with_reducible intro _))
    all_goals first | with_reducible assumption | trivial | omega | (split <;> omega)
   ·obtain ⟨w0, hw0⟩ : ∃ w, K.b.norm (φ 0 [id, nw, c0, bu, mo, L, R, hh, vn, TL, i + 1]) = w := ⟨_, rfl⟩
    obtain ⟨w1, hw1⟩ : ∃ w, IntKind.i64.wrap (φ 1 [id, nw, c0, bu, mo, L, R, hh, vn, TL, i + 1]) = w := ⟨_, rfl⟩
    obtain ⟨w2, hw2⟩ : ∃ w, K.b.norm (φ 2 [id, nw, c0, bu, mo, L, R, hh, vn, TL, i + 1]) = w := ⟨_, rfl⟩
    simp (disch := omega) only [ewZ, reduceCtorEq, seval, hSS, hi, er, ha, hb, hn, hw0, hw1, hw2]
    replace ih : foundD id (dc TL) (i + 1) [w0, w1, w2] := by rw [<- hw0, <- hw1, <- hw2]; exact ih
    replace ih := ih.next hdr (show isId id [a, b] = false from decide_eq_false hn)
    rcases ih with ⟨h1, h2⟩ | ⟨h1, h2, h3⟩
    ·replace h1 : w0 = 1 := h1
     subst h1
     exact Or.inl ⟨rfl, h2⟩
    ·replace h1 : w0 = 0 := h1
     replace h2 : w2 = 1 := h2
     subst h1 h2
     exact Or.inr ⟨rfl, by simp [env, b2i, i2b], h3⟩
 ·refine ⟨?_, ?_⟩ <;> simp (disch := omega) only [ewZ, reduceCtorEq, seval, hSS, hi]
  ·refine Or.inl ⟨rfl, ?_⟩
   show ixR (isId id) ((dc TL).drop i.toNat) i = -1
   rw [List.drop_of_length_le (by omega)]; rfl
theorem cDxok : cDx.OK Try.prog G0 := ⟨rfl, mF trivial, mF ⟨okDl.1, trivial⟩⟩
theorem okDx : EPz eDx T7 := by
 refine cDxok.nm.entryK false [(100009666, leDl.nm.ent)] ?_
 go_invoke
 refine enK rfl ?_
 intro l ρ nw hnw c0 hc0 bu hbu mo hmo L R hh hhh vn hvn TL id hid hp v1 hn1 v2 hn2 v3 hn3 hSS hd
 simp (disch := omega) only [and_true, Ent.nm_fn, hSS, ewZ, reduceCtorEq, seval] at hd
 obtain ⟨hd1, hd2, hd3⟩ := hd
 replace hp : okT TL := hp
 have yp : leDl.ent.pre [id, nw, c0, bu, mo, L, R, hh, vn, TL, 0] := ⟨hp, by show (0 : Int) <= 0; decide, by show (0 : Int) <= ((dc TL).length : Int); omega⟩
 have q := (PostOK.usf (vs := [v1, v2, v3]) okDl.2 ⟨hd1, hd2, hd3, trivial⟩) ⟨hid, hnw, hc0, hbu, hmo, rfl, rfl, hhh, hvn, rfl, rfl, trivial⟩ yp
 replace q : foundD id (dc TL) 0 [v1, v2, v3] := q
 unfold foundD at q
 rw [show (0 : Int).toNat = 0 from rfl, List.drop_zero] at q
 refine ⟨?_, ?_⟩
 ·simp (disch := omega) only [ewZ, reduceCtorEq, seval, hSS]
  exact yp
 ·rcases q with ⟨q1, q2⟩ | ⟨q1, q2, q3, q4⟩
  ·replace q1 : v1 = 1 := q1
   have e : fndR (dc TL) id = -1 := q2
   simp (disch := omega) only [ewZ, reduceCtorEq, seval, hSS, q1]
   refine ⟨?_, ?_⟩
   ·show (0 : Int) = dlT (dc TL) id
    unfold dlT; rw [e]; rfl
   ·show (0 : Int) = b2i (decide (0 <= fndR (dc TL) id))
    rw [e]; rfl
  ·replace q1 : v1 = 0 := q1
   replace q2 : v3 = 1 := q2
   have e : 0 <= fndR (dc TL) id := q3
   simp (disch := omega) only [ewZ, reduceCtorEq, seval, hSS, q1, q2]
   refine ⟨?_, ?_⟩
   ·show v2 = dlT (dc TL) id
    unfold dlT; rw [if_pos e]; exact q4
   ·show (1 : Int) = b2i (decide (0 <= fndR (dc TL) id))
    rw [decide_eq_true e]; rfl
theorem cAxok : cAx.OK Try.prog G0 := Ctx.OK.nil.addF UW.1 rfl
theorem okAx : EPz eAx T9 := by
 refine cAxok.nm.entryK false [(100000106, e106.nm)] ?_
 go_invoke
 refine enK rfl ?_
 intro l ρ nw hnw c0 hc0 bu hbu mo hmo L R hh hhh vn hvn TL id hid hp v1 hn1 v2 hn2 hSS hd
 simp (disch := omega) only [and_true, Ent.nm_fn, hSS, ewZ, reduceCtorEq, seval] at hd
 obtain ⟨hd1, hd2⟩ := hd
 obtain ⟨p1, p2⟩ := hp
 have y : e106.pre [nw, c0, bu, mo, L, R, id] := ⟨p1, p2⟩
 have q := (PostOK.usf (vs := [v1, v2]) UW.2 ⟨hd1, hd2, trivial⟩) ⟨hnw, hc0, hbu, hmo, rfl, rfl, hid, trivial⟩ y
 refine ⟨?_, ?_⟩ <;> simp (disch := omega) only [ewZ, reduceCtorEq, seval, hSS]
 ·exact y
 ·exact q
def U6 (xs ys : List Int) : Prop := env ys 0 = env xs 0 /\ env ys 1 = env xs 1 /\ env ys 2 = env xs 2 /\ env ys 3 = env xs 3 /\ env ys 6 = env xs 6 /\ env ys 7 = env xs 7
abbrev tcR (c now i d : Int) (A B : RL) : Prop := arR c now i d /\ (¬ isR A B i \/ d < dlR A B i)
def preTc19 (xs : List Int) : Prop := ((okR (env xs 4) /\ okR (env xs 5)) /\ ((dc (env xs 4)).length : Int) < capR /\ 0 <= env xs 0 /\ env xs 0 <= 1099511627776) /\ okT (env xs 8) /\ ((dc (env xs 8)).length : Int) < capR
def J3 (xs ys : List Int) : Prop := U6 xs ys /\ dc (env ys 4) = (if tcR (env xs 1) (env xs 0) (env xs 9) (env xs 10) (dc (env xs 4)) (dc (env xs 5)) then puR (env xs 0) (wiR (dc (env xs 4)) (env xs 9)) (env xs 9) (env xs 10) else dc (env xs 4)) /\
 dc (env ys 5) = (if tcR (env xs 1) (env xs 0) (env xs 9) (env xs 10) (dc (env xs 4)) (dc (env xs 5)) then wiR (dc (env xs 5)) (env xs 9) else dc (env xs 5)) /\
 dc (env ys 8) = (if arR (env xs 1) (env xs 0) (env xs 9) (env xs 10) then wiR (dc (env xs 8)) (env xs 9) ++ [[env xs 9, env xs 10]] else dc (env xs 8)) /\ env ys 9 = Jh (env xs 1) (env xs 0) (env xs 9) (env xs 10)
def bTch : Ent := ⟨664, 64, [rzS, i64, i64], [], [0, 1, 2], .tup [rzS, i64], z0, preTc19⟩
def cTch : Ctx := ⟨[eAx, e99, eW], []⟩
def eTch : Ent := bTch.fw (fnG Try.prog G0 bTch J3)
def preCc19 (xs : List Int) : Prop := (okR (env xs 4) /\ okR (env xs 5)) /\ okT (env xs 8)
abbrev ccR (c i : Int) (L : RL) : Prop := (0 <= i /\ i < c) /\ 0 <= fndR L i
def J4 (xs ys : List Int) : Prop := U6 xs ys /\ dc (env ys 4) = (if ccR (env xs 1) (env xs 9) (dc (env xs 8)) then canL (env xs 1) (env xs 9) (dc (env xs 4)) (dc (env xs 5)) (dc (env xs 4)) else dc (env xs 4)) /\
 dc (env ys 5) = (if ccR (env xs 1) (env xs 9) (dc (env xs 8)) then canL (env xs 1) (env xs 9) (dc (env xs 4)) (dc (env xs 5)) (dc (env xs 5)) else dc (env xs 5)) /\
 dc (env ys 8) = (if ccR (env xs 1) (env xs 9) (dc (env xs 8)) then wiR (dc (env xs 8)) (env xs 9) else dc (env xs 8)) /\ env ys 9 = (if 0 <= env xs 9 /\ env xs 9 < env xs 1 then (if 0 <= fndR (dc (env xs 8)) (env xs 9) then 0 else 6) else 2)
def bCan : Ent := ⟨665, 65, [rzS, i64], [], [0, 1, 2], .tup [rzS, i64], z0, preCc19⟩
def cCan : Ctx := ⟨[eDx, e74, eW], []⟩
def eCan : Ent := bCan.fw (fnG Try.prog G0 bCan J4)
theorem Wu : cTch.OK Try.prog G0 := ((Ctx.OK.nil.addF okW.1 rfl).addF ok99.1 rfl).addF okAx.1 rfl
theorem Ru : EPz eTch J3 := by
 refine Wu.nm.entryK false [(100000099, e99.nm), (100000667, eAx.nm), (100000694, eW.nm)] ?_
 go_invoke
 refine enK rfl ?_
 intro l ρ nw hnw c0 hc0 bu hbu mo hmo L R hh hhh vn hvn TL id hid x hx hp v1 hn1 v2 hn2 v3 hn3 v4 hn4 v5 hn5 v6 hn6 v7 v8 v9 hn9 v10 hSS hd
 simp (disch := omega) only [and_true, Ent.nm_fn, hSS, ewZ, reduceCtorEq, seval] at hd
 obtain ⟨hd1, hd2, hd3, hd4, hd5, hd6, hd7, hd8, hd9, hd10⟩ := hd
 obtain ⟨⟨p1, p2, p3, p4⟩, p5, p6⟩ := hp
 simp only [ewY, seval] at p2 p3 p4 p6
 have rx := i64r hx
 have yA : eAx.pre [nw, c0, bu, mo, L, R, hh, vn, TL, id] := p1
 have y99 : e99.pre [nw, c0, bu, mo, L, R, id, x] := ⟨p1, p2, p3, p4⟩
 have yW : eW.pre [TL, id] := p5
 obtain ⟨z1, z2⟩ := (PostOK.usf (vs := [v1, v2]) okAx.2 ⟨hd1, hd2, trivial⟩) ⟨hnw, hc0, hbu, hmo, rfl, rfl, hhh, hvn, rfl, hid, trivial⟩ yA
 replace z1 : v1 = dlR (dc L) (dc R) id := z1
 replace z2 : v2 = b2i (decide (isR (dc L) (dc R) id)) := z2
 have w : dc v10 = wiR (dc TL) id := (PostOK.usf (vs := [v10]) okW.2 ⟨hd10, trivial⟩) ⟨rfl, hid, trivial⟩ yW
 have lw : (dc v10).length <= (dc TL).length := by rw [w]; exact LX _ _
 have hT : (i2b v2 = true -> x < v1) ↔ (¬ isR (dc L) (dc R) id \/ x < dlR (dc L) (dc R) id) := by
  rw [z1, z2, D1, decide_eq_true_iff]; exact Decidable.imp_iff_not_or
 have wx : nw < x -> IntKind.i64.wrap (x - nw) = x - nw := fun h => i64w (by omega) (by omega)
 refine ⟨?_, ?_⟩ <;> simp (disch := omega) only [ewZ, reduceCtorEq, seval, hSS]
 ·exact ⟨fun h => ⟨yA, fun _ => y99, yW, by rw [List.length_append, List.length_singleton]; unfold capR at p6; omega⟩, fun h k => ⟨h, k⟩, fun h k => ⟨h, k⟩, fun h => h⟩
 ·by_cases ha : arR c0 nw id x
  ·have hc : ¬ ((0 <= id /\ id < c0) /\ nw < x -> 2147483648 < IntKind.i64.wrap (x - nw)) := fun h => by
    have h1 := h ⟨ha.1, ha.2.1⟩
    rw [wx ha.2.1] at h1
    have := ha.2.2
    omega
   have tl : dc (cd (dc v10 ++ [[id, x]])) = if arR c0 nw id x then wiR (dc TL) id ++ [[id, x]] else dc TL := by rw [Ab, w]; exact (if_pos ha).symm
   simp only [if_neg hc]
   by_cases ht : i2b v2 = true -> x < v1
   ·have tc : tcR c0 nw id x (dc L) (dc R) := ⟨ha, hT.1 ht⟩
    obtain ⟨⟨a1, a2, a3, a4⟩, a5, a6, a7⟩ := (PostOK.usf (vs := [v3, v4, v5, v6, v7, v8, v9]) ok99.2 ⟨hd3, hd4, hd5, hd6, hd7, hd8, hd9, trivial⟩) ⟨hnw, hc0, hbu, hmo, rfl, rfl, hid, hx, trivial⟩ y99
    simp only [if_pos ht]
    exact ⟨⟨a1, a2, a3, a4, rfl, rfl⟩, (a5.trans (if_pos ha)).trans (if_pos tc).symm, (a6.trans (if_pos ha)).trans (if_pos tc).symm, tl, (if_pos ha).symm⟩
   ·have tc : ¬ tcR c0 nw id x (dc L) (dc R) := fun h => ht (hT.2 h.2)
    simp only [if_neg ht]
    exact ⟨⟨rfl, rfl, rfl, rfl, rfl, rfl⟩, (if_neg tc).symm, (if_neg tc).symm, tl, (if_pos ha).symm⟩
  ·have hc : (0 <= id /\ id < c0) /\ nw < x -> 2147483648 < IntKind.i64.wrap (x - nw) := fun h => by
    rw [wx h.2]
    have : ¬ x <= nw + 2147483648 := fun k => ha ⟨h.1, h.2, k⟩
    omega
   have tc : ¬ tcR c0 nw id x (dc L) (dc R) := fun h => ha h.1
   simp only [if_pos hc]
   exact ⟨⟨rfl, rfl, rfl, rfl, rfl, rfl⟩, (if_neg tc).symm, (if_neg tc).symm, (if_neg ha).symm, (if_neg ha).symm⟩
theorem Wv : cCan.OK Try.prog G0 := ((Ctx.OK.nil.addF okW.1 rfl).addF ok74.1 rfl).addF okDx.1 rfl
theorem Rv : EPz eCan J4 := by
 refine Wv.nm.entryJ Az false ?_
 go_invoke
 refine ⟨_, _, _, _, rfl, by kernel_rfl, ?_⟩
 intro nw hnw c0 hc0 bu hbu mo hmo L R hh hhh vn hvn TL id hid hp l hF ρ hρe hd
 have F74 := hF 100000074 e74.nm rfl rfl
 have F666 := hF 100000666 eDx.nm rfl rfl
 have F694 := hF 100000694 eW.nm rfl rfl
 simp only [eqL, Nat.reduceAdd] at hρe
 obtain ⟨⟨v1, hv1, hd1, hn1⟩, ⟨v2, hv2, hd2, hn2⟩⟩ := Jj (nmd hd 0 rfl) (nmd hd 1 rfl)
 obtain ⟨⟨v3, hv3, hd3, hn3⟩, ⟨v4, hv4, hd4, hn4⟩⟩ := Jj (nmd hd 2 rfl) (nmd hd 3 rfl)
 obtain ⟨⟨v5, hv5, hd5, hn5⟩, ⟨v6, hv6, hd6, hn6⟩⟩ := Jj (nmd hd 4 rfl) (nmd hd 5 rfl)
 obtain ⟨⟨v7, hv7, hd7, hn7⟩, ⟨v8, hv8, hd8, hn8⟩⟩ := Jj (nmd hd 6 rfl) (nmd hd 7 rfl)
 obtain ⟨⟨v9, hv9, hd9, hn9⟩, ⟨v10, hv10, hd10, hn10⟩⟩ := Jj (nmd hd 8 rfl) (nmd hd 9 rfl)
 simp only [An] at hn1 hn3 hn4 hn5 hn6 hn9
 have hSS := Jj (Jj (Jj (Jj F74 (Jj F666 F694)) (Jj (Jj hρe hnw) (Jj hc0 hbu))) (Jj (Jj hmo (Jj hhh hvn)) (Jj (Jj hid hv1) (Jj hn1 hv2)))) (Jj (Jj (Jj hn2 (Jj hv3 hn3)) (Jj (Jj hv4 hn4) (Jj hv5 hn5))) (Jj (Jj hv6 (Jj hn6 hv7)) (Jj (Jj hv8 hv9) (Jj hn9 hv10))))
 simp (disch := omega) only [An, Ent.nm_fn, hSS, ewZ, reduceCtorEq, seval] at hd1 hd2 hd3 hd4 hd5 hd6 hd7 hd8 hd9 hd10
 obtain ⟨p1, p2⟩ := hp
 have yD : eDx.pre [nw, c0, bu, mo, L, R, hh, vn, TL, id] := p2
 have y74 : e74.pre [nw, c0, bu, mo, L, R, id] := p1
 have yW : eW.pre [TL, id] := p2
 have z2 : v2 = b2i (decide (0 <= fndR (dc TL) id)) := ((PostOK.usf (vs := [v1, v2]) okDx.2 ⟨hd1, hd2, trivial⟩) ⟨hnw, hc0, hbu, hmo, rfl, rfl, hhh, hvn, rfl, hid, trivial⟩ yD).2
 refine ⟨?_, ?_⟩ <;> simp (disch := omega) only [ewZ, reduceCtorEq, seval, hSS]
 ·exact ⟨fun h => ⟨yD, fun _ => ⟨y74, yW⟩⟩, fun h hv => ⟨h, hv⟩⟩
 ·by_cases hi : 0 <= id /\ id < c0
  ·have hc : ¬ (0 <= id -> c0 <= id) := by omega
   simp only [if_neg hc]
   by_cases hF : 0 <= fndR (dc TL) id
   ·have hv : ¬ i2b v2 = false := by rw [z2, decide_eq_true hF]; decide
    have cc : ccR c0 id (dc TL) := ⟨hi, hF⟩
    simp only [if_neg hv]
    obtain ⟨⟨a1, a2, a3, a4⟩, a5, a6, a7⟩ := (PostOK.usf (vs := [v3, v4, v5, v6, v7, v8, v9]) ok74.2 ⟨hd3, hd4, hd5, hd6, hd7, hd8, hd9, trivial⟩) ⟨hnw, hc0, hbu, hmo, rfl, rfl, hid, trivial⟩ y74
    have w := (PostOK.usf (vs := [v10]) okW.2 ⟨hd10, trivial⟩) ⟨rfl, hid, trivial⟩ yW
    exact ⟨⟨a1, a2, a3, a4, rfl, rfl⟩, a5.trans (if_pos cc).symm, a6.trans (if_pos cc).symm, w.trans (if_pos cc).symm, ((if_pos hi).trans (if_pos hF)).symm⟩
   ·have hv : i2b v2 = false := by rw [z2, decide_eq_false hF]; rfl
    have cc : ¬ ccR c0 id (dc TL) := fun h => hF h.2
    simp only [if_pos hv]
    exact ⟨⟨rfl, rfl, rfl, rfl, rfl, rfl⟩, (if_neg cc).symm, (if_neg cc).symm, (if_neg cc).symm, ((if_pos hi).trans (if_neg hF)).symm⟩
  ·have hc : 0 <= id -> c0 <= id := by omega
   have cc : ¬ ccR c0 id (dc TL) := fun h => hi h.1
   simp only [if_pos hc]
   exact ⟨⟨rfl, rfl, rfl, rfl, rfl, rfl⟩, (if_neg cc).symm, (if_neg cc).symm, (if_neg cc).symm, (if_neg hi).symm⟩
def bWs : Ent := ⟨695, 94, [lsT, i64], [], [0], lsT, z0, preW⟩
def eWs : Ent := bWs.fw (fnG Try.prog G0 bWs Nb)
def ob80 : Ob := { j := 0, ty := 80, cs := [i64, i64, i64, i64, lsR, lsR, i64, i64, lsT] }
def RVe (nw c bu mo : Int) (A B : RL) : Prop := ∃ S le T, RV S nw bu le mo T c A B
def bdT (nw : Int) (L : RL) : Prop := ∀ r ∈ L, r.getD 1 0 <= nw + 2147483648
def pTl : List Bool := [true,true,true,false,true,false]
def hl0 (xs : List Int) : HL := ⟨dc (env xs 4), dc (env xs 5), dc (env xs 8), dc (env xs 9), env xs 7⟩
def preTl (xs : List Int) : Prop := RVe (env xs 0) (env xs 1) (env xs 2) (env xs 3) (dc (env xs 4)) (dc (env xs 5)) /\ (okT (env xs 8) /\ ((dc (env xs 8)).length : Int) < capR) /\ bdT (env xs 0) (dc (env xs 8)) /\ (1 <= env xs 6 /\ env xs 6 <= 4096) /\ (0 <= env xs 10 /\ env xs 10 <= env xs 6) /\ ((dc (env xs 9)).length : Int) <= env xs 10 /\ 0 <= env xs 7 /\ env xs 7 + (env xs 6 - env xs 10) <= 2251799813685248
def Ua (xs ys : List Int) : Prop := (env ys 0 = env xs 0 /\ env ys 1 = env xs 1 /\ env ys 2 = env xs 2 /\ env ys 3 = env xs 3 /\ env ys 6 = env xs 6) /\
 dc (env ys 4) = (hsN (env xs 0) (env xs 6 - env xs 10).toNat (hl0 xs)).A /\ dc (env ys 5) = (hsN (env xs 0) (env xs 6 - env xs 10).toNat (hl0 xs)).B /\ dc (env ys 8) = (hsN (env xs 0) (env xs 6 - env xs 10).toNat (hl0 xs)).T /\ dc (env ys 9) = (hsN (env xs 0) (env xs 6 - env xs 10).toNat (hl0 xs)).O /\ env ys 7 = (hsN (env xs 0) (env xs 6 - env xs 10).toNat (hl0 xs)).V
def muTl (xs : List Int) : Nat := (env xs 6 - env xs 10).toNat
def lbTl : LEnt := ⟨⟨9692, 999999, [o80, lio, i64], [ob80], [], .tup [lio], z0, preTl⟩, [1, 4, 5], [4], (List.range 5).map (· + 5) ++ (List.range 57).map (· + 17), [.ex 0], 76, []⟩
def cTl : Ctx := ⟨[e76, eDx, eWs, e99], []⟩
def leTl : LEnt := lbTl.fw (fnM Try.prog G0 92 pTl lbTl Ua)
def preTk19 (xs : List Int) : Prop := RVe (env xs 0) (env xs 1) (env xs 2) (env xs 3) (dc (env xs 4)) (dc (env xs 5)) /\ (okT (env xs 8) /\ ((dc (env xs 8)).length : Int) < capR) /\ bdT (env xs 0) (dc (env xs 8)) /\ (1 <= env xs 6 /\ env xs 6 <= 4096) /\ env xs 3 + env xs 2 <= 1125899906842624 /\ 0 <= env xs 7 /\ env xs 7 <= 1125899906842624
def hl1 (xs : List Int) : HL := hsN (nowT (env xs 0)) (env xs 6).toNat ⟨tkA (env xs 0) (env xs 2) (dc (env xs 4)), tkB (env xs 0) (dc (env xs 4)) (dc (env xs 5)), dc (env xs 8), [], env xs 7⟩
def J5 (xs ys : List Int) : Prop := (env ys 0 = nowT (env xs 0) /\ env ys 1 = env xs 1 /\ env ys 2 = env xs 2 /\ env ys 3 = env xs 3 + tkM (env xs 0) (env xs 2) (dc (env xs 4)) /\ env ys 6 = env xs 6) /\ dc (env ys 4) = (hl1 xs).A /\ dc (env ys 5) = (hl1 xs).B /\ dc (env ys 8) = (hl1 xs).T /\ dc (env ys 9) = (hl1 xs).O /\ env ys 7 = (hl1 xs).V
def bTk : Ent := ⟨692, 92, [rzS], [], [0, 1, 2], .tup [rzS, lio], z0, preTk19⟩
def cTk : Ctx := ⟨[e75], [(92, pTl, leTl)]⟩
def eTk : Ent := bTk.fw (fnG Try.prog G0 bTk J5)
section
variable {S now bu le mo T c : Int} {A B : RL}
theorem RV.okAB {A B : Int} (h : RV S now bu le mo T c (dc A) (dc B)) : okR A /\ okR B := by
 have hl := h.lenA
 have hc := h.cp
 have hct := h.ct
 have key : ∀ i : Nat, (i : Int) < c -> fits k4 (rowT (dc T) i) := fun i hi => by
  obtain ⟨Q, ok, _⟩ := h.r
  have hil : i < (dc T).length := by omega
  exact ⟨i64w (by show _ <= (i : Int); omega) (by show (i : Int) <= _; omega), rowsC ok.rT (j := 4) hil rfl, rowsC ok.rT (j := 0) hil rfl, rowsC ok.rT (j := 1) hil rfl, trivial⟩
 refine ⟨⟨fun r hr => ?_, by unfold capR; omega⟩, ⟨fun r hr => ?_, by unfold capR; omega⟩⟩
 ·obtain ⟨i, rfl, hi, _⟩ := h.rows.1 r hr
  exact key i hi
 ·obtain ⟨i, rfl, hi, _⟩ := h.rows.2 r hr
  exact key i hi
theorem RV.armX (h : RV S now bu le mo T c A B) (i d : Int) : RVe now c bu mo (armA c now i d A) (armBk c now i d B) := by
 obtain ⟨a, b, e1, e2, _⟩ := h.arm (i := i) (d := d) ⟨rfl, rfl, rfl, rfl, rfl, rfl, rfl, trivial⟩
 rw [b, e1, e2] at a
 exact ⟨_, _, _, a⟩
theorem RV.takeX (h : RV S now bu le mo T c A B) {k : Int} (hk : 0 <= k) : RVe now c bu mo A (B.drop k.toNat) := by
 obtain ⟨a, b, e1, e2, _⟩ := h.take hk ⟨rfl, rfl, rfl, rfl, rfl, rfl, rfl, rfl, trivial⟩
 rw [b, e1, e2] at a
 exact ⟨_, _, _, a⟩
theorem RV.tickX (h : RV S now bu le mo T c A B) (hm : mo + bu <= 1125899906842624) : RVe (nowT now) c bu (mo + tkM now bu A) (tkA now bu A) (tkB now A B) := by
 obtain ⟨a, b, e1, e2, _⟩ := h.tick hm ⟨rfl, rfl, rfl, rfl, rfl, rfl, rfl, trivial⟩
 rw [b, e1, e2] at a
 exact ⟨_, _, _, a⟩
end
theorem okWs : EPz eWs Nb := by
 refine cWok.nm.entryK false [(100009694, leW.nm.ent)] ?_
 go_invoke
 refine enK rfl ?_
 intro l ρ L id hid hp v1 hSS hd1
 simp (disch := omega) only [and_true, Ent.nm_fn, hSS, ewZ, reduceCtorEq, seval] at hd1
 replace hp : okT L := hp
 have d0 : dc (cd ([] : RL)) = [] := Ab _
 have yp : leW.ent.pre [L, id, cd [], 0] := ⟨hp, by show (0 : Int) <= 0; decide, by show (0 : Int) <= ((dc L).length : Int); omega, by show ((dc (cd [])).length : Int) <= 0; rw [d0]; decide⟩
 have q := (PostOK.usf (vs := [v1]) okWl.2 ⟨hd1, trivial⟩) ⟨rfl, hid, rfl, rfl, trivial⟩ yp
 refine ⟨?_, ?_⟩ <;> simp (disch := omega) only [ewZ, reduceCtorEq, seval, hSS]
 ·exact yp
 ·replace q : dc v1 = dc (cd []) ++ wiR ((dc L).drop 0) id := q
  rw [d0, List.nil_append, List.drop_zero] at q
  exact q
theorem cTlok : cTl.OK Try.prog G0 := (((Ctx.OK.nil.addF ok99.1 rfl).addF okWs.1 rfl).addF okDx.1 rfl).addF ok76.1 rfl
theorem okTl : IPz 92 pTl leTl Ua := by
 refine cTlok.nm.loopK muTl true 9692 [(100000076, e76.nm), (100000099, e99.nm), (100000666, eDx.nm), (100000695, eWs.nm)] ⟨_, _, _, Try.func92, rfl, rfl⟩ ?_
 go_invoke
 refine enK rfl ?_
 intro φ l ρ nw hnw c0 hc0 bu hbu mo hmo L R hh hhh vn hvn TL o n hn hp hφ v1 hn1 v2 hn2 v3 hn3 v4 hn4 v5 v6 v7 v8 hn8 v9 hn9 v10 hn10 v11 v12 hn12 v13 hn13 v14 hn14 v15 hn15 v16 v17 v18 hn18 hSS hd
 simp (disch := omega) only [and_true, Ent.nm_fn, hSS, ewZ, reduceCtorEq, seval] at hd
 obtain ⟨hd1, hd2, hd3, hd4, hd5, hd6, hd7, hd8, hd9, hd10, hd11, hd12, hd13, hd14, hd15, hd16, hd17, hd18⟩ := hd
 obtain ⟨⟨S, le, T, rv⟩, ⟨p1, p1b⟩, p2, p3, p4, p5, p6, p7⟩ := hp
 replace rv : RV S nw bu le mo T c0 (dc L) (dc R) := rv
 replace p1 : okT TL := p1
 replace p2 : bdT nw (dc TL) := p2
 simp only [ewY, seval] at p1b p3 p4 p5 p6 p7
 have hok := rv.okAB
 have hla := rv.lenA
 have htm := rv.tm
 have hct := rv.ct
 have lR := lenW hok.2
 have wn : IntKind.i64.wrap (n + 1) = n + 1 := i64w (by omega) (by omega)
 have wv0 : IntKind.i64.wrap (vn + 0) = vn := by rw [Int.add_zero]; exact hvn
 have wv1 : IntKind.i64.wrap (vn + 1) = vn + 1 := i64w (by omega) (by omega)
 by_cases hc : n < hh /\ 0 < ((dc R).length : Int)
 ·obtain ⟨h1, h2⟩ := hc
  obtain ⟨x, y, z, w, er, hdr, hx, hy, hz, hw⟩ := FU hok.2 (i := 0) (by decide) h2
  have hR : dc R = [x, y, z, w] :: (dc R).drop 1 := hdr
  have xr : 0 <= x /\ x < c0 := by
   obtain ⟨i, e, hi, _⟩ := rv.rows.2 [x, y, z, w] (by rw [hR]; exact List.mem_cons_self ..)
   have e : x = (i : Int) := by injection e
   omega
  have y76 : e76.pre [nw, c0, bu, mo, L, R, 1] := hok.2
  obtain ⟨⟨a1, a2, a3, a4⟩, a5, a6, a7, a8⟩ := (PostOK.usf (vs := [v1, v2, v3, v4, v5, v6, v7, v8]) ok76.2 ⟨hd1, hd2, hd3, hd4, hd5, hd6, hd7, hd8, trivial⟩) ⟨hnw, hc0, hbu, hmo, rfl, rfl, rfl, trivial⟩ y76
  replace a6 : dc v6 = (dc R).drop 1 := a6
  have d7 : dc v7 = [[x]] := by
   have a7 : dc v7 = idsL ((dc R).take 1) := a7
   rw [a7, hR]; rfl
  obtain rfl : nw = v1 := Eq.symm a1
  obtain rfl : c0 = v2 := Eq.symm a2
  obtain rfl : bu = v3 := Eq.symm a3
  obtain rfl : mo = v4 := Eq.symm a4
  obtain rfl : L = v5 := Eq.symm a5
  have er7 : (dc v7).getD 0 [] = [x] := by rw [d7]; rfl
  have l7 : IntKind.i64.wrap ((dc v7).length : Int) = 1 := by rw [d7]; rfl
  simp (disch := omega) only [ewZ, reduceCtorEq, seval, er7, hx] at hd9 hd10 hd11 hd12 hd13 hd14 hd15 hd16 hd17 hd18
  obtain ⟨S1, le1, T1, rv1⟩ := rv.takeX (k := 1) (by decide)
  replace rv1 : RV S1 nw bu le1 mo T1 c0 (dc L) (dc v6) := by rw [a6]; exact rv1
  have hok1 := rv1.okAB
  have yD : eDx.pre [nw, c0, bu, mo, L, v6, hh, vn, TL, x] := p1
  have z9 : v9 = dlT (dc TL) x := ((PostOK.usf (vs := [v9, v10]) okDx.2 ⟨hd9, hd10, trivial⟩) ⟨hnw, hc0, hbu, hmo, rfl, rfl, hhh, hvn, rfl, hx, trivial⟩ yD).1
  have yW : eWs.pre [TL, x] := p1
  have y99 : e99.pre [nw, c0, bu, mo, L, v6, x, v9] := ⟨hok1, by show ((dc L).length : Int) < capR; unfold capR; omega, htm.1, htm.2⟩
  have hs : hs1 nw ⟨dc L, dc R, dc TL, dc o, vn⟩ = hi1 nw x ⟨dc L, dc v6, dc TL, dc o, vn⟩ := by
   unfold hs1
   rw [show (HL.mk (dc L) (dc R) (dc TL) (dc o) vn).B = [x, y, z, w] :: (dc R).drop 1 from hR, a6]; rfl
  have ek : (hh - n).toNat = (hh - (n + 1)).toNat + 1 := by omega
  have fin : ∀ X : HL, hi1 nw x ⟨dc L, dc v6, dc TL, dc o, vn⟩ = X -> hsN nw (hh - n).toNat ⟨dc L, dc R, dc TL, dc o, vn⟩ = hsN nw (hh - (n + 1)).toNat X := fun X hX => by
   rw [ek, <- hX, <- hs]; rfl
  by_cases hd : v9 <= nw
  ·have hd' : ¬ nw < v9 := by omega
   have w11 : dc v11 = wiR (dc TL) x := (PostOK.usf (vs := [v11]) okWs.2 ⟨hd11, trivial⟩) ⟨rfl, hx, trivial⟩ yW
   obtain ⟨o', ho'⟩ : ∃ o', o' = cd (dc o ++ [[x]]) := ⟨_, rfl⟩
   have do' : dc o' = dc o ++ [[x]] := by rw [ho']; exact Ab _
   have lo' : (dc o ++ [[x]]).length = (dc o).length + 1 := by rw [List.length_append]; rfl
   have hX := fin ⟨dc L, dc v6, dc v11, dc o', vn⟩ (by unfold hi1; rw [if_pos (by show dlT (dc TL) x <= nw; rw [<- z9]; exact hd), w11, do'])
   have l11 := LX (dc TL) x
   have m11 : ∀ r ∈ dc v11, r ∈ dc TL := fun r hr => by rw [w11] at hr; exact (List.mem_filter.1 hr).1
   have yp : lbTl.ent.pre [nw, c0, bu, mo, L, v6, hh, vn, v11, o', n + 1] := ⟨⟨_, _, _, rv1⟩, ⟨⟨fun r hr => p1.1 r (m11 r hr), by show ((dc v11).length : Int) <= capR; rw [w11]; have := p1.2; omega⟩, by show ((dc v11).length : Int) < capR; rw [w11]; omega⟩, fun r hr => p2 r (m11 r hr), p3, ⟨by show 0 <= n + 1; omega, by show n + 1 <= hh; omega⟩, by show ((dc o').length : Int) <= n + 1; rw [do', lo']; omega, p6, by show vn + (hh - (n + 1)) <= _; omega⟩
   have ym : muTl [nw, c0, bu, mo, L, v6, hh, vn, v11, o', n + 1] < muTl [nw, c0, bu, mo, L, R, hh, vn, TL, o, n] := by show (hh - (n + 1)).toNat < (hh - n).toNat; omega
   have ih := hφ [nw, c0, bu, mo, L, v6, hh, vn, v11, o', n + 1] ⟨hnw, hc0, hbu, hmo, rfl, rfl, hhh, hvn, rfl, rfl, wn, trivial⟩ yp ym
   refine ⟨?_, ?_⟩ <;> simp (disch := omega) only [ewZ, reduceCtorEq, seval, hSS, h1, h2, lR, er7, l7, hx, hd, hd', wn, wv0, wv1, <- ho']
   ·exact ⟨⟨y76, yD, yW, by rw [do', lo']; omega⟩, yp, ym⟩
   ·exact ⟨ih.1, ih.2.1.trans (congrArg HL.A hX).symm, ih.2.2.1.trans (congrArg HL.B hX).symm, ih.2.2.2.1.trans (congrArg HL.T hX).symm, ih.2.2.2.2.1.trans (congrArg HL.O hX).symm, ih.2.2.2.2.2.trans (congrArg HL.V hX).symm⟩
  ·have hd' : nw < v9 := by omega
   have ar : arR c0 nw x v9 := ⟨xr, hd', by
    rw [z9]
    unfold dlT
    split
    ·rename_i hf
     rcases OJ (dc TL) x with ⟨e, _⟩ | ⟨r, hr, _, _, _, e⟩
     ·omega
     ·rw [e]; exact p2 r hr
    ·omega⟩
   obtain ⟨⟨b1, b2, b3, b4⟩, b5, b6, b7⟩ := (PostOK.usf (vs := [v12, v13, v14, v15, v16, v17, v18]) ok99.2 ⟨hd12, hd13, hd14, hd15, hd16, hd17, hd18, trivial⟩) ⟨hnw, hc0, hbu, hmo, rfl, rfl, hx, hn9, trivial⟩ y99
   replace b5 : dc v16 = armA c0 nw x v9 (dc L) := b5
   replace b6 : dc v17 = armBk c0 nw x v9 (dc v6) := b6
   obtain rfl : nw = v12 := Eq.symm b1
   obtain rfl : c0 = v13 := Eq.symm b2
   obtain rfl : bu = v14 := Eq.symm b3
   obtain rfl : mo = v15 := Eq.symm b4
   obtain ⟨S2, le2, T2, rv2⟩ := rv1.armX x v9
   rw [<- b5, <- b6] at rv2
   have hX := fin ⟨dc v16, dc v17, dc TL, dc o, vn + 1⟩ (by
    rw [b5, b6]
    unfold hi1 armA armBk
    rw [if_neg (by show ¬ dlT (dc TL) x <= nw; rw [<- z9]; exact hd), if_pos ar, if_pos ar, z9])
   have yp : lbTl.ent.pre [nw, c0, bu, mo, v16, v17, hh, vn + 1, TL, o, n + 1] := ⟨⟨_, _, _, rv2⟩, ⟨p1, p1b⟩, p2, p3, ⟨by show 0 <= n + 1; omega, by show n + 1 <= hh; omega⟩, by show ((dc o).length : Int) <= n + 1; omega, by show 0 <= vn + 1; omega, by show vn + 1 + (hh - (n + 1)) <= _; omega⟩
   have ym : muTl [nw, c0, bu, mo, v16, v17, hh, vn + 1, TL, o, n + 1] < muTl [nw, c0, bu, mo, L, R, hh, vn, TL, o, n] := by show (hh - (n + 1)).toNat < (hh - n).toNat; omega
   have ih := hφ [nw, c0, bu, mo, v16, v17, hh, vn + 1, TL, o, n + 1] ⟨hnw, hc0, hbu, hmo, rfl, rfl, hhh, wv1, rfl, rfl, wn, trivial⟩ yp ym
   refine ⟨?_, ?_⟩ <;> simp (disch := omega) only [ewZ, reduceCtorEq, seval, hSS, h1, h2, lR, er7, l7, hx, hd, hd', wn, wv0, wv1]
   ·exact ⟨⟨y76, yD, y99⟩, yp, ym⟩
   ·exact ⟨ih.1, ih.2.1.trans (congrArg HL.A hX).symm, ih.2.2.1.trans (congrArg HL.B hX).symm, ih.2.2.2.1.trans (congrArg HL.T hX).symm, ih.2.2.2.2.1.trans (congrArg HL.O hX).symm, ih.2.2.2.2.2.trans (congrArg HL.V hX).symm⟩
 ·have he : n < hh -> ((dc R).length : Int) <= 0 := by omega
  have e0 : hsN nw (hh - n).toNat ⟨dc L, dc R, dc TL, dc o, vn⟩ = ⟨dc L, dc R, dc TL, dc o, vn⟩ := by
   by_cases q : n < hh
   ·exact L0 _ _ _ (List.eq_nil_of_length_eq_zero (by have := he q; show (dc R).length = 0; omega))
   ·rw [show (hh - n).toNat = 0 by omega]; rfl
  refine ⟨?_, ?_⟩ <;> simp (disch := omega) only [ewZ, reduceCtorEq, seval, hSS, lR]
  ·simp only [hc]
   exact ⟨fun h => h.elim, fun h => h.elim, fun _ => ⟨fun h => h.elim, id, fun h => h.elim⟩⟩
  ·simp only [if_pos he]
   exact ⟨⟨rfl, rfl, rfl, rfl, rfl⟩, (congrArg HL.A e0).symm, (congrArg HL.B e0).symm, (congrArg HL.T e0).symm, (congrArg HL.O e0).symm, (congrArg HL.V e0).symm⟩
theorem cTkok : cTk.OK Try.prog G0 := (Ctx.OK.nil.addL okTl.1 rfl).addF ok75.1 rfl
theorem U7 : EPz eTk J5 := by
 refine cTkok.nm.entryK true [(100000075, e75.nm), (100009692, leTl.nm.ent)] ?_
 go_invoke
 refine enK rfl ?_
 intro l ρ nw hnw c0 hc0 bu hbu mo hmo L R hh hhh vn hvn TL hp v1 hn1 v2 hn2 v3 hn3 v4 hn4 v5 v6 v7 hn7 v8 hn8 v9 hn9 v10 hn10 v11 hn11 v12 v13 v14 hn14 v15 hn15 v16 v17 hSS hd
 simp (disch := omega) only [and_true, Ent.nm_fn, hSS, ewZ, reduceCtorEq, seval] at hd
 obtain ⟨hd1, hd2, hd3, hd4, hd5, hd6, hd7, hd8, hd9, hd10, hd11, hd12, hd13, hd14, hd15, hd16, hd17⟩ := hd
 obtain ⟨⟨S, le, T, rv⟩, ⟨p1, p1b⟩, p2, p3, p5, p6, p7⟩ := hp
 replace rv : RV S nw bu le mo T c0 (dc L) (dc R) := rv
 replace p2 : bdT nw (dc TL) := p2
 simp only [ewY, seval] at p3 p5 p6 p7
 have hok := rv.okAB
 have y75 : e75.pre [nw, c0, bu, mo, L, R] := ⟨⟨S, le, T, rv⟩, hok.1, hok.2, p5⟩
 obtain ⟨⟨b1, b2, b3, b4⟩, b5, b6, b7⟩ := (PostOK.usf (vs := [v1, v2, v3, v4, v5, v6, v7]) ok75.2 ⟨hd1, hd2, hd3, hd4, hd5, hd6, hd7, trivial⟩) ⟨hnw, hc0, hbu, hmo, rfl, rfl, trivial⟩ y75
 replace b1 : v1 = nowT nw := b1
 replace b2 : v2 = c0 := b2
 replace b3 : v3 = bu := b3
 replace b4 : v4 = mo + tkM nw bu (dc L) := b4
 replace b5 : dc v5 = tkA nw bu (dc L) := b5
 replace b6 : dc v6 = tkB nw (dc L) (dc R) := b6
 have nT : nw <= nowT nw := by unfold nowT; split <;> omega
 have yL : leTl.ent.pre [v1, v2, v3, v4, v5, v6, hh, vn, TL, cd [], 0] := ⟨by show RVe v1 v2 v3 v4 (dc v5) (dc v6); rw [b1, b2, b3, b4, b5, b6]; exact rv.tickX p5, ⟨p1, p1b⟩, fun r hr => by have := p2 r hr; show r.getD 1 0 <= v1 + 2147483648; omega, p3, ⟨by show (0 : Int) <= 0; decide, by show (0 : Int) <= hh; omega⟩, by show ((dc (cd [])).length : Int) <= 0; rw [Ab]; decide, p6, by show vn + (hh - 0) <= _; omega⟩
 obtain ⟨⟨i1, i2, i3, i4, i5⟩, i6, i7, i8, i9, i10⟩ := (PostOK.usf (vs := [v8, v9, v10, v11, v12, v13, v14, v15, v16, v17]) okTl.2 ⟨hd8, hd9, hd10, hd11, hd12, hd13, hd14, hd15, hd16, hd17, trivial⟩) ⟨hn1, hn2, hn3, hn4, rfl, rfl, hhh, hvn, rfl, rfl, rfl, trivial⟩ yL
 have hX : hsN v1 (hh - 0).toNat ⟨dc v5, dc v6, dc TL, dc (cd []), vn⟩ = hl1 [nw, c0, bu, mo, L, R, hh, vn, TL] := by
  rw [b1, b5, b6, Ab, Int.sub_zero]; rfl
 refine ⟨?_, ?_⟩ <;> simp (disch := omega) only [ewZ, reduceCtorEq, seval, hSS]
 ·exact ⟨y75, yL⟩
 ·exact ⟨⟨i1.trans b1, i2.trans b2, i3.trans b3, i4.trans b4, i5⟩, i6.trans (congrArg HL.A hX), i7.trans (congrArg HL.B hX), i8.trans (congrArg HL.T hX), i9.trans (congrArg HL.O hX), i10.trans (congrArg HL.V hX)⟩
structure LM (S now bu le mo T h ln vn D c : Int) (d a : Nat -> Int) (B R : List Nat) : Prop where
 w : WV S now bu le mo T c a B
 hd : 1 <= h /\ h <= 4096
 ln : ln = le + (R.length : Int)
 rD : rowsOK intK (dc D)
 cp : ((dc D).length : Int) = c
 dl : ∀ i : Nat, (i : Int) < c -> gC (dc D) i 0 = d i
 nd : R.Nodup
 rr : ∀ i ∈ R, (i : Int) < c /\ a i = 0 /\ 0 < d i
 ad : ∀ i : Nat, (i : Int) < c -> (i ∉ R -> (a i = 0 ↔ d i = 0)) /\ a i <= d i /\ d i <= now + 2147483648
 vb : 0 <= vn /\ vn + (R.length : Int) <= 1125899906842624
def LMx (xs : List Int) (c : Int) (d a : Nat -> Int) (B R : List Nat) : Prop := LM (env xs 0) (env xs 1) (env xs 2) (env xs 3) (env xs 4) (env xs 5) (env xs 6) (env xs 7) (env xs 8) (env xs 9) c d a B R
def cmD (now : Int) (d : Nat -> Int) (R : List Nat) : Nat -> Int := fun j => if j ∈ R /\ d j <= now then 0 else d j
def cmA (now : Int) (d a : Nat -> Int) (R : List Nat) : Nat -> Int := fun j => if j ∈ R then (if d j <= now then 0 else d j) else a j
def cmO (now : Int) (d : Nat -> Int) (R : List Nat) : List Nat := R.filter fun j => decide (d j <= now)
def cmV (now : Int) (d : Nat -> Int) (R : List Nat) : Int := ((R.filter fun j => decide (now < d j)).length : Nat)
def idR (l : List Nat) : RL := l.map fun i : Nat => [(i : Int)]
def pLt : List Bool := [true,true,true,true,true,true,false,true,false]
def LsX (xs : List Int) (R : List Nat) : Prop := (dc (env xs 11)).drop (env xs 13).toNat = idR R
def preLt (xs : List Int) : Prop := (∃ c d a B R, LMx xs c d a B R /\ LsX xs R) /\ rowsOK intK (dc (env xs 11)) /\ env xs 12 = ((dc (env xs 11)).length : Int) /\ 0 <= env xs 13 /\ env xs 13 <= env xs 12 /\ env xs 12 <= 4096 /\ ((dc (env xs 10)).length : Int) <= env xs 13
def Ww (xs ys : List Int) : Prop := ∀ c d a B R, LMx xs c d a B R -> LsX xs R -> (R = [] -> ∀ j, j < 11 -> env ys j = env xs j) /\
 LVx ys c (cmD (env xs 1) d R) (cmA (env xs 1) d a R) B /\ dc (env ys 10) = dc (env xs 10) ++ idR (cmO (env xs 1) d R) /\ env ys 1 = env xs 1 /\ env ys 2 = env xs 2 /\ env ys 4 = env xs 4 /\ env ys 6 = env xs 6 /\ env ys 8 = env xs 8 + cmV (env xs 1) d R
def LQx (xs : List Int) (c : Int) (A B TL : RL) (R : List Nat) : Prop := (∃ d a Bn, LMx xs c d a Bn R /\ TLr c d TL) /\ RVx xs c A B
def LTx (xs : List Int) (c : Int) (A B TL : RL) : Prop := (∃ d a Bn, LVx xs c d a Bn /\ TLr c d TL) /\ RVx xs c A B
def inR (R : List Nat) : List Int := R.map fun i : Nat => (i : Int)
def pstLt (xs ys : List Int) : Prop := ∀ c A B TL R, LQx xs c A B TL R -> LsX xs R ->
 LTx ys c (hiL (env xs 1) (inR R) ⟨A, B, TL, dc (env xs 10), env xs 8⟩).A (hiL (env xs 1) (inR R) ⟨A, B, TL, dc (env xs 10), env xs 8⟩).B (hiL (env xs 1) (inR R) ⟨A, B, TL, dc (env xs 10), env xs 8⟩).T /\
  dc (env ys 10) = (hiL (env xs 1) (inR R) ⟨A, B, TL, dc (env xs 10), env xs 8⟩).O /\ env ys 8 = (hiL (env xs 1) (inR R) ⟨A, B, TL, dc (env xs 10), env xs 8⟩).V
def PS (xs ys : List Int) : Prop := Ww xs ys /\ pstLt xs ys
def muLt (xs : List Int) : Nat := (env xs 12 - env xs 13).toNat
def hnS : Sh := .fnc 40 [.obj 24 [lzS], .obj 29 [lio]]
def lbLt : LEnt := ⟨⟨9014, 999999, [hnS, lio, i64, i64], [{ j := 2, ty := 102, tl := some k3, cs := [.sc .x, i64, i64, i64, i64, ltm] }, { j := 1, ty := 49, cs := [.ref 2, i64, i64, i64, lio] }, { j := 5, ty := 29, cs := [lio] }], [0, 7], .tup [], z0, preLt⟩, [5, 32, 33, 34], [], [9] ++ (List.range 8).map (· + 34), [.ex 0], 43, []⟩
def cZ4 : Ctx := ⟨[e18, e14], []⟩
def leLt : LEnt := lbLt.fw (fnM Try.prog G0 14 pLt lbLt PS)
def pre14z (xs : List Int) : Prop := preZ xs /\ env xs 4 + env xs 2 <= 1125899906842624 /\ env xs 8 + 4096 <= 1125899906842624
def ex14 (xs ys : List Int) (L : Int) : Prop := ∃ v1 v2 v3 v4 v5 v6 v7 v8 v9 v10 v11 v12 v13 v15, Ah e15.fn (wp6 xs) 0 kW7 [v1, v2, v3, v4, v5, v6, v7] /\ Ah e17.fn [v1, v2, v3, v4, v5, v6, env xs 6] 0 [.x, .i .i64, .i .i64, .i .i64, .i .i64, .x, .x, .i .i64] [v8, v9, v10, v11, v12, v13, L, v15] /\ (dc L = [] -> wp6 ys = [v8, v9, v10, v11, v12, v13])
def Lu (xs ys : List Int) : Prop := ∃ L, ex14 xs ys L /\ ∀ c d a B, LVx xs c d a B -> ∃ N P : List Nat, dc L = idR P /\ (∀ i, i ∈ N ↔ env xs 1 < 1099511627776 /\ (i : Int) < c /\ a i = env xs 1 + 1) /\ P = (B ++ N).take (env xs 6).toNat /\
 LVx ys c (cmD (nowT (env xs 1)) d P) (cmA (nowT (env xs 1)) d a P) ((B ++ N).drop (env xs 6).toNat) /\ dc (env ys 10) = idR (cmO (nowT (env xs 1)) d P) /\ env ys 1 = nowT (env xs 1) /\ env ys 2 = env xs 2 /\ (env xs 4 <= env ys 4 /\ env ys 4 <= env xs 4 + env xs 2) /\ env ys 6 = env xs 6 /\ env ys 8 = env xs 8 + cmV (nowT (env xs 1)) d P
def pst14 (xs ys : List Int) : Prop := ∀ c A B TL, LTx xs c A B TL ->
 LTx ys c (hsN (nowT (env xs 1)) (env xs 6).toNat ⟨tkA (env xs 1) (env xs 2) A, tkB (env xs 1) A B, TL, [], env xs 8⟩).A (hsN (nowT (env xs 1)) (env xs 6).toNat ⟨tkA (env xs 1) (env xs 2) A, tkB (env xs 1) A B, TL, [], env xs 8⟩).B (hsN (nowT (env xs 1)) (env xs 6).toNat ⟨tkA (env xs 1) (env xs 2) A, tkB (env xs 1) A B, TL, [], env xs 8⟩).T /\
  dc (env ys 10) = (hsN (nowT (env xs 1)) (env xs 6).toNat ⟨tkA (env xs 1) (env xs 2) A, tkB (env xs 1) A B, TL, [], env xs 8⟩).O /\ env ys 8 = (hsN (nowT (env xs 1)) (env xs 6).toNat ⟨tkA (env xs 1) (env xs 2) A, tkB (env xs 1) A B, TL, [], env xs 8⟩).V
def L1 (xs ys : List Int) : Prop := Lu xs ys /\ pst14 xs ys
def b14z : Ent := ⟨314, 14, [lzS], [wobL, lzO], [], .tup [lio, .lt kJ 0], z0, pre14z⟩
def cZ5 : Ctx := ⟨[z34, e15, e17], [(14, pLt, leLt)]⟩
def z14 : Ent := b14z.fw (fnG Try.prog G0 b14z L1)
section
variable {S now bu le mo T h ln vn D c : Int} {d a : Nat -> Int} {B R : List Nat} {r : Nat}
theorem LM.lz (m : LM S now bu le mo T h ln vn D c d a B []) : LZ S now bu le mo T h ln vn D c d a B :=
 ⟨m.w, m.hd, by have := m.ln; simp at this; exact this, m.rD, m.cp, m.dl, fun i hi => ⟨(m.ad i hi).1 (by simp), (m.ad i hi).2⟩, by have := m.vb; simp at this; exact this⟩
theorem LM.later {S' bu' le' mo' T' ln' vn' : Int} {B' : List Nat} (m : LM S now bu le mo T h ln vn D c d a B (r :: R)) (hw : WV S' now bu' le' mo' T' c (upD a r (d r)) B') (hl : le' = le + 1) (hn : ln' = ln) (hv : vn' = vn + 1) : LM S' now bu' le' mo' T' h ln' vn' D c d (upD a r (d r)) B' R := by
 have nd := List.nodup_cons.1 m.nd
 have hln := m.ln
 have hvb := m.vb
 rw [List.length_cons] at hln hvb
 refine ⟨hw, m.hd, by omega, m.rD, m.cp, m.dl, nd.2, fun i hi => ?_, fun i hi => ?_, by omega⟩
 ·have e : i ≠ r := fun e => nd.1 (e ▸ hi)
  rw [As _ _ e]
  exact m.rr i (List.mem_cons_of_mem _ hi)
 ·have := m.ad i hi
  by_cases e : i = r
  ·subst e
   rw [AZ]
   exact ⟨fun _ => Iff.rfl, Int.le_refl _, this.2.2⟩
  ·rw [As _ _ e]
   exact ⟨fun hh => this.1 (by simp [e, hh]), this.2⟩
theorem LM.comes {D' ln' : Int} (m : LM S now bu le mo T h ln vn D c d a B (r :: R)) (hD : D' = cd (setC (dc D) r 0 [0])) (hn : ln' = ln - 1) : LM S now bu le mo T h ln' vn D' c (upD d r 0) a B R := by
 have nd := List.nodup_cons.1 m.nd
 have hln := m.ln
 have hvb := m.vb
 have htm := m.w.tm
 rw [List.length_cons] at hln hvb
 obtain ⟨r1, r2, r3⟩ := m.rr r (List.mem_cons_self ..)
 have hcp := m.cp
 have hl' : r < (dc D).length := by omega
 subst hD
 refine ⟨m.w, m.hd, by omega, ?_, ?_, fun y hy => ?_, nd.2, fun i hi => ?_, fun i hi => ?_, by omega⟩
 ·rw [Ab]; exact m.rD.set hl' rfl
 ·rw [Ab, Bx]; exact hcp
 ·rw [Ab, PR m.rD hl']; unfold upD; split
  ·rfl
  ·exact m.dl y hy
 ·have e : i ≠ r := fun e => nd.1 (e ▸ hi)
  rw [As _ _ e]
  exact m.rr i (List.mem_cons_of_mem _ hi)
 ·have := m.ad i hi
  by_cases e : i = r
  ·subst e
   rw [AZ]
   exact ⟨fun _ => ⟨fun _ => rfl, fun _ => r2⟩, by omega, by omega⟩
  ·rw [As _ _ e]
   exact ⟨fun hh => this.1 (by simp [e, hh]), this.2⟩
theorem LZ.due {S1 now1 bu1 le1 mo1 T1 S2 bu2 le2 mo2 T2 : Int} {P N : List Nat} (hz : LZ S now bu le mo T h ln vn D c d a B) (hw1 : WV S1 now1 bu1 le1 mo1 T1 c a (B ++ N)) (h1 : now <= now1) (h2 : le1 = le) (hP : P = (B ++ N).take h.toNat)
 (hw2 : WV S2 now1 bu2 le2 mo2 T2 c (fun i => if i ∈ P then 0 else a i) ((B ++ N).drop h.toNat)) (h3 : le2 = le1 - (P.length : Int)) (hv : vn + 4096 <= 1125899906842624) :
 LM S2 now1 bu2 le2 mo2 T2 h ln vn D c d (fun i => if i ∈ P then 0 else a i) ((B ++ N).drop h.toNat) P /\ cmA now1 d (fun i => if i ∈ P then 0 else a i) P = cmA now1 d a P := by
 have hl := hz.ln
 have hh := hz.hd
 have hvb := hz.vb
 have hlen : (P.length : Int) <= h := by rw [hP, List.length_take]; omega
 have hsub : ∀ i ∈ P, i ∈ B ++ N := fun i hi => by rw [hP] at hi; exact List.mem_of_mem_take hi
 refine ⟨⟨hw2, hh, by omega, hz.rD, hz.cp, hz.dl, ?_, fun i hi => ?_, fun i hi => ?_, by omega⟩, ?_⟩
 ·rw [hP]; exact hw1.nd.sublist (List.take_sublist ..)
 ·obtain ⟨m1, m2, m3⟩ := (hw1.mem i).1 (hsub i hi)
  have := hz.ad i m1
  exact ⟨m1, if_pos hi, by omega⟩
 ·have := hz.ad i hi
  have hd0 := hz.dr hi
  refine ⟨fun hn => ?_, ?_, by omega⟩
  ·show (if i ∈ P then 0 else a i) = 0 ↔ d i = 0
   rw [if_neg hn]; exact this.1
  ·show (if i ∈ P then 0 else a i) <= d i
   split <;> omega
 ·funext j
  unfold cmA
  by_cases e : j ∈ P
  ·rw [if_pos e, if_pos e]
  ·rw [if_neg e, if_neg e]; exact if_neg e
theorem L2 : cmD now d [] = d := funext fun j => if_neg (by simp)
theorem L3 : cmA now d a [] = a := funext fun j => if_neg (by simp)
theorem OL (hr : r ∉ R) (hd : now < d r) : cmD now d (r :: R) = cmD now d R /\ cmA now d a (r :: R) = cmA now d (upD a r (d r)) R /\ cmO now d (r :: R) = cmO now d R /\ cmV now d (r :: R) = cmV now d R + 1 := by
 refine ⟨funext fun j => ?_, funext fun j => ?_, ?_, ?_⟩
 ·unfold cmD
  by_cases e : j = r
  ·subst e; rw [if_neg (by omega), if_neg (by omega)]
  ·simp [e]
 ·unfold cmA
  by_cases e : j = r
  ·subst e; rw [if_pos (by simp), if_neg (by omega), if_neg hr, AZ]
  ·rw [As _ _ e]; simp [e]
 ·unfold cmO
  rw [List.filter_cons, if_neg (by simp; omega)]
 ·unfold cmV
  rw [List.filter_cons, if_pos (by simpa using hd)]; rfl
theorem Lv {f : Int -> Bool} (hr : r ∉ R) (v : Int) : (R.filter fun j => f (upD d r v j)) = R.filter fun j => f (d j) :=
 List.filter_congr fun j hj => by rw [As _ _ (show j ≠ r from fun e => hr (e ▸ hj))]
theorem UE (hr : r ∉ R) (hd : d r <= now) (ha : a r = 0) : cmD now d (r :: R) = cmD now (upD d r 0) R /\ cmA now d a (r :: R) = cmA now (upD d r 0) a R /\ cmO now d (r :: R) = r :: cmO now (upD d r 0) R /\ cmV now d (r :: R) = cmV now (upD d r 0) R := by
 refine ⟨funext fun j => ?_, funext fun j => ?_, ?_, ?_⟩
 ·unfold cmD
  by_cases e : j = r
  ·subst e; rw [if_pos ⟨by simp, hd⟩, if_neg (fun hh => hr hh.1), AZ]
  ·rw [As _ _ e]; simp [e]
 ·unfold cmA
  by_cases e : j = r
  ·subst e; rw [if_pos (by simp), if_pos hd, if_neg hr, ha]
  ·rw [As _ _ e]; simp [e]
 ·unfold cmO
  rw [List.filter_cons, if_pos (by simpa using hd), Lv (f := fun x => decide (x <= now)) hr]
 ·unfold cmV
  rw [List.filter_cons, if_neg (by simp; omega), Lv (f := fun x => decide (now < x)) hr]
end
theorem OM {R : List Nat} {x : Int} {t : RL} (h : [x] :: t = idR R) : ∃ q R1, R = q :: R1 /\ x = (q : Int) /\ t = idR R1 := by
 cases R with
 | nil => cases h
 | cons q R1 =>
   injection h with h1 h2
   injection h1 with h1 _
   exact ⟨q, R1, rfl, h1, h2⟩
theorem DL : ∀ {R R' : List Nat}, idR R = idR R' -> R' = R
 | [], [], _ => rfl
 | [], _ :: _, h => by cases h
 | _ :: _, [], h => by cases h
 | q :: R, q' :: R', h => by
   obtain ⟨q2, R2, e1, e2, e3⟩ := OM (R := q' :: R') (x := (q : Int)) (t := idR R) h
   injection e1 with e4 e5
   subst e4 e5
   rw [DL e3, show q' = q by omega]
theorem cZ4ok : cZ4.OK Try.prog G0 := (Ctx.OK.nil.addF ok14 rfl).addF ok18 rfl
set_option maxHeartbeats 4000000 in
theorem okLt : IPz 14 pLt leLt PS := by
 refine cZ4ok.nm.loopK muLt false 9014 [(100000014, e14.nm), (100000018, e18.nm)] ⟨_, _, _, Try.func14, rfl, rfl⟩ ?_
 go_invoke
 refine enK rfl ?_
 intro φ l ρ S now hnow bu hbu le hle mo hmo T h hh ln hln vn hvn D O L n hn i hi hp hφ v1 hn1 v2 v3 hn3 v4 hn4 v5 hn5 v6 hn6 v7 v8 hn8 hSS hd
 simp (disch := omega) only [and_true, Ent.nm_fn, hSS, ewZ, reduceCtorEq, seval] at hd
 obtain ⟨hd1, hd2, hd3, hd4, hd5, hd6, hd7, hd8⟩ := hd
 obtain ⟨⟨c, d, a, B, R, hm, hL⟩, p1, p2, p3, p4, p5, p6⟩ := hp
 replace hm : LM S now bu le mo T h ln vn D c d a B R := hm
 replace hL : (dc L).drop i.toNat = idR R := hL
 replace p1 : rowsOK intK (dc L) := p1
 simp only [ewY, seval] at p2 p3 p4 p5 p6
 have hw := hm.w
 have htm := hw.tm
 have hct := hw.ct
 have hcp := hm.cp
 have hvb := hm.vb
 have wD : IntKind.i64.wrap (((dc D).length : Nat) : Int) = c := by rw [hcp]; exact i64w (by omega) (by omega)
 have wL : IntKind.i64.wrap (((dc L).length : Nat) : Int) = n := by rw [<- p2]; exact hn
 have y18 : e18.pre [S, now, bu, le, mo, T] := hw.lenOK []
 have z1 := hw.nowV hd1
 by_cases hi : i < n
 ·obtain ⟨r, er, hr, hmem, hdrop⟩ := Gw p1 p3 (by omega)
  obtain ⟨x, r1, rfl, hx, hr⟩ := AM hr
  obtain rfl := Eh hr
  simp only [An] at hx
  rw [hdrop] at hL
  obtain ⟨q, R1, rfl, rfl, hL1⟩ := OM hL
  have nd := List.nodup_cons.1 hm.nd
  obtain ⟨g1, g2, g3⟩ := hm.rr q (List.mem_cons_self ..)
  obtain ⟨_, g4, g5⟩ := hm.ad q g1
  have cq := hm.dl q g1
  have c0 := rowsC hm.rD (i := q) (j := 0) (by omega) rfl
  have hvb' := hm.vb
  have hln' := hm.ln
  have hle' := hw.ler
  rw [List.length_cons] at hvb' hln'
  have tq : ((q : Nat) : Int).toNat = q := by omega
  simp (disch := omega) only [ewZ, reduceCtorEq, seval, er, tq, AF, c0, cq] at hd2 hd3 hd4 hd5 hd6 hd7 hd8
  have y14 : e14.pre [S, now, bu, le, mo, T, (q : Int), d q] := hw.wx2 _ _
  have wn : IntKind.i64.wrap (vn + 1) = vn + 1 := i64w (by omega) (by omega)
  have wl : IntKind.i64.wrap (ln - 1) = ln - 1 := i64w (by omega) (by omega)
  have wi : IntKind.i64.wrap (i + 1) = i + 1 := i64w (by omega) (by omega)
  have hcm : ∀ {c' : Int} {d' a' : Nat -> Int} {B' R' : List Nat}, LM S now bu le mo T h ln vn D c' d' a' B' R' -> (dc L).drop i.toNat = idR R' -> R' = q :: R1 /\ c' = c /\ d' q = d q := fun {c' d' a' B' R'} hm' hL' => by
   rw [hdrop] at hL'
   have e := hm'.cp.symm.trans hm.cp
   exact ⟨DL (hL.symm.trans hL'), e, (hm'.dl q (by omega)).symm.trans cq⟩
  by_cases hd : now < d q
  ·obtain ⟨q1, q2, q3, q4, q5, q6, _⟩ := hw.arm (i := (q : Int)) (dd := d q) ⟨by omega, g1⟩ ⟨hd, g5⟩ ⟨hd2, hd3, hd4, hd5, hd6, hd7, hd8, trivial⟩
   have ha0 : ∀ {c' : Int} {a' : Nat -> Int} {B' : List Nat}, WV S now bu le mo T c' a' B' -> a' q = 0 -> B'.erase q = B' := fun hw' h0 => List.erase_of_not_mem fun hm => by
    have := (hw'.mem q).1 hm
    omega
   have hB := ha0 hw g2
   rw [tq, hB] at q1
   rw [tq, g2, if_neg (by omega)] at q6
   subst q2
   have hm1 := hm.later q1 q6 rfl rfl
   have yp : lbLt.ent.pre [v2, v3, v4, v5, v6, v7, h, ln, vn + 1, D, O, L, n, i + 1] := ⟨⟨_, _, _, _, _, hm1, hL1⟩, p1, p2, by show 0 <= i + 1; omega, by show i + 1 <= n; omega, p5, by show ((dc O).length : Int) <= i + 1; omega⟩
   have ym : muLt [v2, v3, v4, v5, v6, v7, h, ln, vn + 1, D, O, L, n, i + 1] < muLt [S, v3, bu, le, mo, T, h, ln, vn, D, O, L, n, i] := by show (n - (i + 1)).toNat < (n - i).toNat; omega
   have i1 := hφ [v2, v3, v4, v5, v6, v7, h, ln, vn + 1, D, O, L, n, i + 1] ⟨rfl, hn3, hn4, hn5, hn6, rfl, hh, hln, wn, rfl, rfl, rfl, hn, wi, trivial⟩ yp ym
   refine ⟨?_, ?_⟩
   ·simp (disch := omega) only [ewZ, reduceCtorEq, seval, hSS, hi, er, tq, AF, c0, cq, wD, wL, z1, hd, wn, y18, y14, wi]
    exact ⟨⟨p3, by omega, g1⟩, yp, ym⟩
   ·simp (disch := omega) only [ewZ, reduceCtorEq, seval, hSS, hi, er, tq, AF, c0, cq, wD, wL, z1, hd, wn, wi]
    refine ⟨?_, fun c' A' B'' TL R' hq hL' => ?_⟩
    ·intro c' d' a' B' R' hm' hL'
     obtain ⟨rfl, rfl, ed⟩ := hcm hm' hL'
     replace hm' : LM S v3 bu le mo T h ln vn D c' d' a' B' (q :: R1) := hm'
     have a0 := (hm'.rr q (List.mem_cons_self ..)).2.1
     obtain ⟨u1, _, _, _, _, u6, _⟩ := hm'.w.arm (i := (q : Int)) (dd := d q) ⟨by omega, g1⟩ ⟨hd, g5⟩ ⟨hd2, hd3, hd4, hd5, hd6, hd7, hd8, trivial⟩
     rw [tq, ha0 hm'.w a0, <- ed] at u1
     rw [tq, a0, if_neg (by omega)] at u6
     obtain ⟨_, j1, j2, j3, j4, j5, j6, j7⟩ := i1.1 c' d' _ B' R1 (hm'.later u1 u6 rfl rfl) hL1
     obtain ⟨k1, k2, k3, k4⟩ := OL (a := a') (now := v3) nd.1 (show v3 < d' q by rw [ed]; exact hd)
     refine ⟨nofun, ?_, ?_, j3, j4.trans q3, j5.trans q4, j6, ?_⟩
     ·show LVx _ c' (cmD v3 d' (q :: R1)) (cmA v3 d' a' (q :: R1)) B'
      rw [k1, k2]; exact j1
     ·show _ = dc O ++ idR (cmO v3 d' (q :: R1))
      rw [k3]; exact j2
     ·show _ = vn + cmV v3 d' (q :: R1)
      rw [k4]; exact j7.trans (by show vn + 1 + cmV v3 d' R1 = _; omega)
    ·obtain ⟨⟨d', a', B', hm', tl⟩, rv⟩ := hq
     obtain ⟨rfl, rfl, ed⟩ := hcm hm' hL'
     replace hm' : LM S v3 bu le mo T h ln vn D c' d' a' B' (q :: R1) := hm'
     have a0 := (hm'.rr q (List.mem_cons_self ..)).2.1
     obtain ⟨u1, _, _, _, _, u6, _⟩ := hm'.w.arm (i := (q : Int)) (dd := d q) ⟨by omega, g1⟩ ⟨hd, g5⟩ ⟨hd2, hd3, hd4, hd5, hd6, hd7, hd8, trivial⟩
     rw [tq, ha0 hm'.w a0, <- ed] at u1
     rw [tq, a0, if_neg (by omega)] at u6
     obtain ⟨r1, _⟩ := rv.arm ⟨hd2, hd3, hd4, hd5, hd6, hd7, hd8, trivial⟩
     have td := (tl.dl q g1).1
     have e : hi1 v3 (q : Int) ⟨A', B'', TL, dc O, vn⟩ = ⟨armA c' v3 q (d q) A', armBk c' v3 q (d q) B'', TL, dc O, vn + 1⟩ := by
      have ar : arR c' v3 q (d q) := ⟨⟨by omega, g1⟩, hd, g5⟩
      unfold hi1 armA armBk
      rw [if_neg (show ¬ dlT TL (q : Int) <= v3 by rw [td, ed]; omega), if_pos ar, if_pos ar]
      show HL.mk (puR v3 (wiR A' q) q (dlT TL (q : Int))) _ _ _ _ = _
      rw [td, ed]
     have j := i1.2 c' _ _ TL R1 ⟨⟨d', _, _, hm'.later u1 u6 rfl rfl, tl⟩, r1⟩ hL1
     unfold inR at j ⊢
     rw [List.map_cons]
     unfold hiL
     show LTx _ c' (hiL v3 _ (hi1 v3 (q : Int) ⟨A', B'', TL, dc O, vn⟩)).A (hiL v3 _ (hi1 v3 (q : Int) ⟨A', B'', TL, dc O, vn⟩)).B (hiL v3 _ (hi1 v3 (q : Int) ⟨A', B'', TL, dc O, vn⟩)).T /\ _ = (hiL v3 _ (hi1 v3 (q : Int) ⟨A', B'', TL, dc O, vn⟩)).O /\ _ = (hiL v3 _ (hi1 v3 (q : Int) ⟨A', B'', TL, dc O, vn⟩)).V
     rw [e]; exact j
  ·have hd' : d q <= now := by omega
   obtain ⟨D', eD⟩ : ∃ D', D' = cd (setC (dc D) q 0 [0]) := ⟨_, rfl⟩
   have eD2 : cd (List.set (dc D) q (splR (List.getD (dc D) q []) 0 [0])) = D' := eD.symm
   have hm1 := hm.comes eD rfl
   have lO : (dc O ++ [[(q : Int)]]).length = (dc O).length + 1 := by rw [List.length_append]; rfl
   have yp : lbLt.ent.pre [S, now, bu, le, mo, T, h, ln - 1, vn, D', cd (dc O ++ [[(q : Int)]]), L, n, i + 1] := ⟨⟨_, _, _, _, _, hm1, hL1⟩, p1, p2, by show 0 <= i + 1; omega, by show i + 1 <= n; omega, p5, by show ((dc (cd (dc O ++ [[(q : Int)]]))).length : Int) <= i + 1; rw [Ab]; omega⟩
   have ym : muLt [S, now, bu, le, mo, T, h, ln - 1, vn, D', cd (dc O ++ [[(q : Int)]]), L, n, i + 1] < muLt [S, now, bu, le, mo, T, h, ln, vn, D, O, L, n, i] := by show (n - (i + 1)).toNat < (n - i).toNat; omega
   have i1 := hφ [S, now, bu, le, mo, T, h, ln - 1, vn, D', cd (dc O ++ [[(q : Int)]]), L, n, i + 1] ⟨rfl, hnow, hbu, hle, hmo, rfl, hh, wl, hvn, rfl, rfl, rfl, hn, wi, trivial⟩ yp ym
   refine ⟨?_, ?_⟩
   ·simp (disch := omega) only [ewZ, reduceCtorEq, seval, hSS, hi, er, tq, AF, c0, cq, wD, wL, z1, hd, wl, y18, wi, Int.add_zero, eD2]
    exact ⟨⟨p3, ⟨by omega, g1⟩, ⟨by omega, g1⟩, by omega⟩, yp, ym⟩
   ·simp (disch := omega) only [ewZ, reduceCtorEq, seval, hSS, hi, er, tq, AF, c0, cq, wD, wL, z1, hd, wl, wi, Int.add_zero, eD2]
    refine ⟨?_, fun c' A' B'' TL R' hq hL' => ?_⟩
    ·intro c' d' a' B' R' hm' hL'
     obtain ⟨rfl, rfl, ed⟩ := hcm hm' hL'
     replace hm' : LM S now bu le mo T h ln vn D c' d' a' B' (q :: R1) := hm'
     have a0 := (hm'.rr q (List.mem_cons_self ..)).2.1
     obtain ⟨_, j1, j2, j3, j4, j5, j6, j7⟩ := i1.1 c' _ a' B' R1 (hm'.comes eD rfl) hL1
     obtain ⟨k1, k2, k3, k4⟩ := UE (a := a') (now := now) nd.1 (show d' q <= now by rw [ed]; exact hd') a0
     refine ⟨nofun, ?_, ?_, j3, j4, j5, j6, ?_⟩
     ·show LVx _ c' (cmD now d' (q :: R1)) (cmA now d' a' (q :: R1)) B'
      rw [k1, k2]; exact j1
     ·show _ = dc O ++ idR (cmO now d' (q :: R1))
      rw [k3]
      exact j2.trans (show dc (cd (dc O ++ [[(q : Int)]])) ++ idR (cmO now (upD d' q 0) R1) = dc O ++ idR (q :: cmO now (upD d' q 0) R1) by rw [Ab, List.append_assoc]; rfl)
     ·show _ = vn + cmV now d' (q :: R1)
      rw [k4]; exact j7
    ·obtain ⟨⟨d', a', B', hm', tl⟩, rv⟩ := hq
     obtain ⟨rfl, rfl, ed⟩ := hcm hm' hL'
     replace hm' : LM S now bu le mo T h ln vn D c' d' a' B' (q :: R1) := hm'
     have td := (tl.dl q g1).1
     have e : hi1 now (q : Int) ⟨A', B'', TL, dc O, vn⟩ = ⟨A', B'', wiR TL q, dc O ++ [[(q : Int)]], vn⟩ := by
      unfold hi1
      rw [if_pos (show dlT TL (q : Int) <= now by rw [td, ed]; exact hd')]
     have j := i1.2 c' A' B'' (wiR TL q) R1 ⟨⟨_, a', B', hm'.comes eD rfl, tl.wi q⟩, rv⟩ hL1
     unfold inR at j ⊢
     rw [List.map_cons]
     unfold hiL
     show LTx _ c' (hiL now _ (hi1 now (q : Int) ⟨A', B'', TL, dc O, vn⟩)).A (hiL now _ (hi1 now (q : Int) ⟨A', B'', TL, dc O, vn⟩)).B (hiL now _ (hi1 now (q : Int) ⟨A', B'', TL, dc O, vn⟩)).T /\ _ = (hiL now _ (hi1 now (q : Int) ⟨A', B'', TL, dc O, vn⟩)).O /\ _ = (hiL now _ (hi1 now (q : Int) ⟨A', B'', TL, dc O, vn⟩)).V
     rw [e]
     replace j : LTx _ c' (hiL now _ ⟨A', B'', wiR TL q, dc (cd (dc O ++ [[(q : Int)]])), vn⟩).A (hiL now _ ⟨A', B'', wiR TL q, dc (cd (dc O ++ [[(q : Int)]])), vn⟩).B (hiL now _ ⟨A', B'', wiR TL q, dc (cd (dc O ++ [[(q : Int)]])), vn⟩).T /\ _ = (hiL now _ ⟨A', B'', wiR TL q, dc (cd (dc O ++ [[(q : Int)]])), vn⟩).O /\ _ = (hiL now _ ⟨A', B'', wiR TL q, dc (cd (dc O ++ [[(q : Int)]])), vn⟩).V := j
     rw [Ab] at j; exact j
 ·have eR : R = [] := by
   rw [List.drop_eq_nil_of_le (by omega)] at hL
   exact DL (R := []) hL
  subst eR
  refine ⟨?_, ?_⟩ <;> simp (disch := omega) only [ewZ, reduceCtorEq, seval, hSS, hi]
  ·refine ⟨?_, fun c' A' B'' TL R' hq hL' => ?_⟩
   ·intro c' d' a' B' R' hm' hL'
    replace hm' : LM S now bu le mo T h ln vn D c' d' a' B' R' := hm'
    replace hL' : (dc L).drop i.toNat = idR R' := hL'
    rw [hL] at hL'
    obtain rfl := DL hL'
    refine ⟨fun _ j hj => ?_, ?_⟩
    ·match j, hj with
     | 0, _ | 1, _ | 2, _ | 3, _ | 4, _ | 5, _ | 6, _ | 7, _ | 8, _ | 9, _ | 10, _ => rfl
    show LZ S now bu le mo T h ln vn D c' (cmD now d' []) (cmA now d' a' []) B' /\ dc O = dc O ++ [] /\ _
    rw [L2, L3, List.append_nil]
    exact ⟨hm'.lz, rfl, rfl, rfl, rfl, rfl, (Int.add_zero _).symm⟩
   ·obtain ⟨⟨d', a', B', hm', tl⟩, rv⟩ := hq
    replace hL' : (dc L).drop i.toNat = idR R' := hL'
    rw [hL] at hL'
    obtain rfl := DL hL'
    exact ⟨⟨⟨d', a', B', LM.lz hm', tl⟩, rv⟩, rfl, rfl⟩
theorem cZ5ok : cZ5.OK Try.prog G0 := Ctx.OK.addL (c := ⟨[z34, e15, e17], []⟩) (((Ctx.OK.nil.addF ok17 rfl).addF ok15 rfl).addF Rr rfl) okLt.1 rfl
theorem Nc : EPz z14 L1 := by
 refine cZ5ok.nm.entryK false [(100000015, e15.nm), (100000017, e17.nm), (100000334, z34.nm), (100009014, leLt.nm.ent)] ?_
 go_invoke
 refine enK rfl ?_
 intro l ρ S now hnow bu hbu le hle mo hmo T h hh ln hln vn hvn D hp v1 v2 hn2 v3 hn3 v4 hn4 v5 hn5 v6 v7 hn7 v8 v9 hn9 v10 hn10 v11 hn11 v12 hn12 v13 v14 v15 hn15 v16 v17 hn17 v18 hn18 v19 hn19 v20 hn20 v21 v22 hn22 v23 hn23 v24 hn24 v25 v26 hSS hd
 simp (disch := omega) only [and_true, Ent.nm_fn, hSS, ewZ, reduceCtorEq, seval] at hd
 obtain ⟨hd1, hd2, hd3, hd4, hd5, hd6, hd7, hd8, hd9, hd10, hd11, hd12, hd13, hd14, hd15, hd16, hd17, hd18, hd19, hd20, hd21, hd22, hd23, hd24, hd25, hd26⟩ := hd
 obtain ⟨⟨c, d, a, B, hz⟩, p1, p2⟩ := hp
 replace hz : LZ S now bu le mo T h ln vn D c d a B := hz
 replace p1 : mo + bu <= 1125899906842624 := p1
 replace p2 : vn + 4096 <= 1125899906842624 := p2
 have hw := hz.w
 have htm := hw.tm
 have hct := hw.ct
 have hhd := hz.hd
 have y34 : z34.pre [S, now, bu, le, mo, T, h, ln, vn, D] := trivial
 have y15 : e15.pre [S, now, bu, le, mo, T] := hw.wx
 have nT : now <= nowT now := by unfold nowT; split <;> omega
 have go : ∀ {c : Int} {d a : Nat -> Int} {B : List Nat}, LZ S now bu le mo T h ln vn D c d a B -> ∃ N P : List Nat, (∀ i, i ∈ N ↔ now < 1099511627776 /\ (i : Int) < c /\ a i = now + 1) /\ P = (B ++ N).take h.toNat /\
  LM v8 (nowT now) v10 v11 v12 v13 h ln vn D c d (fun i => if i ∈ P then 0 else a i) ((B ++ N).drop h.toNat) P /\ cmA (nowT now) d (fun i => if i ∈ P then 0 else a i) P = cmA (nowT now) d a P /\ dc v14 = idR P /\ v9 = nowT now /\ v10 = bu /\ mo <= v12 /\ v12 <= mo + bu /\ WX [v1, v2, v3, v4, v5, v6, h] /\ P.length <= 4096 := by
  intro c d a B hz
  obtain ⟨N, q1, q2, q3, q4, q5, q6, q7, q8, _⟩ := hz.w.tick p1 ⟨hd1, hd2, hd3, hd4, hd5, hd6, hd7, trivial⟩
  obtain ⟨t1, t2, t3, t4, t5, t6, t7, _⟩ := q1.take (k := h) (by omega) ⟨hd8, hd9, hd10, hd11, hd12, hd13, hd14, hd15, trivial⟩
  rw [q3] at t2
  subst t2
  obtain ⟨m1, m2⟩ := hz.due (P := (B ++ N).take h.toNat) (by rw [q3] at q1; exact q1) nT q5 rfl t1 t7 p2
  refine ⟨N, _, q2, rfl, m1, m2, t6, rfl, t3.trans q4, by omega, by omega, q1.wx1 _, ?_⟩
  rw [List.length_take]; omega
 obtain ⟨N, P, n1, n2, n3, n4, n5, n6, n7, n8, n9, n10, n11⟩ := go hz
 have y17 : e17.pre [v1, v2, v3, v4, v5, v6, h] := n10
 have lP : (dc v14).length = P.length := by rw [n5]; exact List.length_map ..
 have wP : IntKind.i64.wrap (((dc v14).length : Nat) : Int) = (((dc v14).length : Nat) : Int) := i64w (by omega) (by omega)
 simp only [wP] at hd16 hd17 hd18 hd19 hd20 hd21 hd22 hd23 hd24 hd25 hd26
 have rP : rowsOK intK (dc v14) := by
  rw [n5]
  intro r hr
  obtain ⟨j, hj, rfl⟩ := List.mem_map.1 hr
  have := (n3.rr j hj).1
  exact ⟨i64w (by omega) (by omega), trivial⟩
 have yL : leLt.ent.pre [v8, v9, v10, v11, v12, v13, h, ln, vn, D, cd [], v14, (((dc v14).length : Nat) : Int), 0] :=
  ⟨⟨c, d, _, _, P, by rw [n6]; exact n3, n5⟩, rP, rfl, by show (0 : Int) <= 0; decide, by show (0 : Int) <= (((dc v14).length : Nat) : Int); omega, by show (((dc v14).length : Nat) : Int) <= 4096; omega, by show ((dc (cd [])).length : Int) <= 0; rw [Ab]; decide⟩
 refine ⟨?_, ?_⟩
 ·simp (disch := omega) only [ewZ, reduceCtorEq, seval, hSS, y34, y15, y17, wP, yL]
 ·simp (disch := omega) only [ewZ, reduceCtorEq, seval, hSS]
  have q := (PostOK.usf (vs := [v16, v17, v18, v19, v20, v21, v22, v23, v24, v25, v26]) okLt.2 ⟨hd16, hd17, hd18, hd19, hd20, hd21, hd22, hd23, hd24, hd25, hd26, trivial⟩) ⟨rfl, hn9, hn10, hn11, hn12, rfl, hh, hln, hvn, rfl, rfl, rfl, wP, rfl, trivial⟩ yL
  refine ⟨⟨v14, ⟨v1, v2, v3, v4, v5, v6, v7, v8, v9, v10, v11, v12, v13, v15, ⟨hd1, hd2, hd3, hd4, hd5, hd6, hd7, trivial⟩, ⟨hd8, hd9, hd10, hd11, hd12, hd13, hd14, hd15, trivial⟩, fun hL => ?_⟩, fun c' d' a' B' hz' => ?_⟩, fun c' A' B'' TL hq => ?_⟩
  ·have hP : P = [] := DL (R := []) (hL.symm.trans n5)
   have j := (q.1 c d _ _ P (by rw [n6]; exact n3) n5).1 hP
   show [v16, v17, v18, v19, v20, v21] = _
   rw [show v16 = v8 from j 0 (by omega), show v17 = v9 from j 1 (by omega), show v18 = v10 from j 2 (by omega), show v19 = v11 from j 3 (by omega), show v20 = v12 from j 4 (by omega), show v21 = v13 from j 5 (by omega)]
  ·obtain ⟨N, P', n1, n2, n3, n4, n5', n6, n7, n8, n9, n10, n11⟩ := go hz'
   obtain ⟨_, j1, j2, j3, j4, j5, j6, j7⟩ := q.1 c' d' _ _ P' (by rw [n6]; exact n3) n5'
   replace j3 : v17 = v9 := j3
   replace j5 : v20 = v12 := j5
   refine ⟨N, P', n5', n1, n2, ?_, ?_, j3.trans n6, j4.trans n7, ⟨by show mo <= v20; omega, by show v20 <= mo + bu; omega⟩, j6, ?_⟩
   ·show LVx _ c' (cmD (nowT now) d' P') (cmA (nowT now) d' a' P') _
    rw [<- n4, <- n6]; exact j1
   ·show _ = idR (cmO (nowT now) d' P')
    rw [<- n6]
    exact j2.trans (show dc (cd []) ++ idR (cmO v9 d' P') = idR (cmO v9 d' P') by rw [Ab]; rfl)
   ·show _ = vn + cmV (nowT now) d' P'
    rw [<- n6]; exact j7
  ·obtain ⟨⟨d', a', B', hz', tl⟩, rv⟩ := hq
   replace hz' : LZ S now bu le mo T h ln vn D c' d' a' B' := hz'
   replace rv : RV S now bu le mo T c' A' B'' := rv
   obtain ⟨N, P', n1, n2, n3, n4, n5', n6, n7, n8, n9, n10, n11⟩ := go hz'
   obtain ⟨r1, w1, _⟩ := rv.tick p1 ⟨hd1, hd2, hd3, hd4, hd5, hd6, hd7, trivial⟩
   obtain ⟨r2, w2, _, _, _, w3⟩ := r1.take (k := h) (by omega) ⟨hd8, hd9, hd10, hd11, hd12, hd13, hd14, hd15, trivial⟩
   have j := q.2 c' _ _ TL P' ⟨⟨d', _, _, by rw [n6]; exact n3, tl⟩, r2⟩ n5'
   have eP : inR P' = ((tkB now A' B'').take h.toNat).map fun r => r.headD 0 := by
    have := congrArg (List.map fun r : List Int => r.headD 0) (n5'.symm.trans w3)
    unfold idR idsL at this
    rw [List.map_map, List.map_map] at this
    exact this
   have e := U4 (nowT now) h.toNat _ ⟨tkA now bu A', tkB now A' B'', TL, [], vn⟩ r1.ndB rfl
   show LTx _ c' (hsN (nowT now) h.toNat ⟨tkA now bu A', tkB now A' B'', TL, [], vn⟩).A (hsN (nowT now) h.toNat ⟨tkA now bu A', tkB now A' B'', TL, [], vn⟩).B (hsN (nowT now) h.toNat ⟨tkA now bu A', tkB now A' B'', TL, [], vn⟩).T /\ _ = (hsN (nowT now) h.toNat ⟨tkA now bu A', tkB now A' B'', TL, [], vn⟩).O /\ _ = (hsN (nowT now) h.toNat ⟨tkA now bu A', tkB now A' B'', TL, [], vn⟩).V
   rw [e, <- eP, <- n6]
   replace j : LTx _ c' (hiL v9 (inR P') ⟨_, _, TL, dc (cd []), vn⟩).A (hiL v9 (inR P') ⟨_, _, TL, dc (cd []), vn⟩).B (hiL v9 (inR P') ⟨_, _, TL, dc (cd []), vn⟩).T /\ _ = (hiL v9 (inR P') ⟨_, _, TL, dc (cd []), vn⟩).O /\ _ = (hiL v9 (inR P') ⟨_, _, TL, dc (cd []), vn⟩).V := j
   rw [Ab] at j; exact j
def e25 : Ent := ⟨25, 11, [i64, i64], [], [], i64, fun _ xs => env xs 0 % env xs 1, fun xs => 0 < env xs 1 /\ env xs 1 <= 4611686018427387904⟩
def Av (xs ys : List Int) : Prop := True
def Rw : E := (.cmp .neq (vI 1) (lI 0))
def U8 : List E := [(aI 0 21 [(.bin .add .i64 (aI 0 21 [(vI 0), (vI 1)]) (vI 1)), (vI 1)])]
theorem ev_25 : evE Try.prog G0 (Aj cI.fs) (ltOf cI.ls) 40 10 e25 = some (Rw, U8) := by kernel_rfl
theorem VL {n b : Int} (h : 0 < b) : (n.tmod b + b).tmod b = n % b /\ -b < n.tmod b /\ n.tmod b < b := by
 have h1 := Int.tmod_lt_of_pos n h
 have h2 := Int.lt_tmod_of_pos n h
 refine ⟨?_, h2, h1⟩
 rw [Int.tmod_eq_emod_of_nonneg (by omega), Int.add_emod_right]
 rw [Int.tmod_def, Int.sub_eq_add_neg, <- Int.mul_neg, Int.add_mul_emod_self_left]
theorem ok25 : EntryOK Try.prog G0 e25 := cIok.entryP Az ev_25 _ rfl _ rfl fun xs hf hp => by
 obtain ⟨l, hl, hF⟩ := AK (l0 := cI.l)
 show Rw.tt cI.l.F _ = true /\ Ax e25.fn _ cI.l.F _ _ _ _
 rw [hl]
 obtain ⟨n, b, rfl⟩ := Ts (Am hf)
 obtain ⟨h0, h1, _⟩ := hf
 simp only [An] at h0 h1
 obtain ⟨p1, p2⟩ := hp
 simp only [ewY, seval] at p1 p2
 obtain ⟨m1, m2, m3⟩ := VL (n := n) p1
 have w1 : IntKind.i64.wrap (n.tmod b) = n.tmod b := i64w (by omega) (by omega)
 have w2 : IntKind.i64.wrap (n.tmod b + b) = n.tmod b + b := i64w (by omega) (by omega)
 have hb : (b != 0) = true := by simp; omega
 have w0 : IntKind.i64.wrap 0 = 0 := i64w (by decide) (by decide)
 refine ⟨?_, ?_, trivial⟩
 ·simp only [Rw, ewY, seval, h0, h1, w0, hb]
 ·simp only [U8, e25, ewY, seval, h0, h1, w1, w2, m1]
section
variable {S now bu le mo T h ln vn D n b l m : Int} {p : RL × RL} {S' now' bu' le' mo' T' h' ln' vn' D' : Int}
theorem WS.touchA {l' i d e : Int} (s : WS S now bu le mo T n b l m p) (hi : 0 <= i /\ i < (p.2.length : Int)) (hD : (dc D).length = p.2.length) (hd : n < d /\ d <= n + 2147483648) (hc : gC p.2 i.toNat 4 = 0 \/ d < gC p.2 i.toNat 4) (hl : (if 0 < gC p.2 i.toNat 4 then l else l + 1) = l')
 (q : GS [S, now, bu, le, mo, T, h, ln, vn, D, i, d] [S', now', bu', le', mo', T', h', ln', vn', D', e]) : WS S' now' bu' le' mo' T' n b l' m (armW n d p i.toNat) := by
 have e1 := s.a1
 have e2 := s.t
 have q1 := q.1 ⟨by show 0 <= i /\ i < ((dc D).length : Int); omega, by show now < d; omega, by show d <= now + 2147483648; omega⟩
 have q2 : if gC (dc T) i.toNat 4 = 0 \/ d < gC (dc T) i.toNat 4 then ∃ e, Ah e14.fn [S, now, bu, le, mo, T, i, d] 0 kW7 [S', now', bu', le', mo', T', e] else wp6 [S', now', bu', le', mo', T'] = wp6 [S, now, bu, le, mo, T] := q1
 rw [e2, if_pos hc] at q2
 obtain ⟨e, o0, o1, o2, o3, o4, o5, o6, _⟩ := q2
 exact (s.arm hi hd hl o0 o1 o2 o3 o4 o5 o6).1
theorem WS.touchB {i d e : Int} (s : WS S now bu le mo T n b l m p) (hi : 0 <= i /\ i < (p.2.length : Int)) (hD : (dc D).length = p.2.length) (hd : n < d /\ d <= n + 2147483648) (hc : ¬ (gC p.2 i.toNat 4 = 0 \/ d < gC p.2 i.toNat 4))
 (q : GS [S, now, bu, le, mo, T, h, ln, vn, D, i, d] [S', now', bu', le', mo', T', h', ln', vn', D', e]) : WS S' now' bu' le' mo' T' n b l m p := by
 have e1 := s.a1
 have e2 := s.t
 have q1 := q.1 ⟨by show 0 <= i /\ i < ((dc D).length : Int); omega, by show now < d; omega, by show d <= now + 2147483648; omega⟩
 have q2 : if gC (dc T) i.toNat 4 = 0 \/ d < gC (dc T) i.toNat 4 then ∃ e, Ah e14.fn [S, now, bu, le, mo, T, i, d] 0 kW7 [S', now', bu', le', mo', T', e] else [S', now', bu', le', mo', T'] = [S, now, bu, le, mo, T] := q1
 rw [e2, if_neg hc] at q2
 injection q2 with g1 g2
 injection g2 with g2 g3
 injection g3 with g3 g4
 injection g4 with g4 g5
 injection g5 with g5 g6
 injection g6 with g6 _
 subst g1 g2 g3 g4 g5 g6
 exact s
theorem WS.tickL {O c : Int} {d a : Nat -> Int} {B : List Nat} (s : WS S now bu le mo T n b l m p) (hz : LZ S now bu le mo T h ln vn D c d a B) (hm : m + b <= 1152921504606846976) (q : Lu [S, now, bu, le, mo, T, h, ln, vn, D] [S', now', bu', le', mo', T', h', ln', vn', D', O]) :
 ∃ N P : List Nat, (tkN (nowT n) h.toNat (tickW n b p).1).2 = idR P /\ (∀ i, i ∈ N ↔ now < 1099511627776 /\ (i : Int) < c /\ a i = now + 1) /\ P = (B ++ N).take h.toNat /\ LZ S' now' bu' le' mo' T' h' ln' vn' D' c (cmD (nowT now) d P) (cmA (nowT now) d a P) ((B ++ N).drop h.toNat) /\ dc O = idR (cmO (nowT now) d P) /\ now' = nowT now /\ bu' = bu /\ (mo <= mo' /\ mo' <= mo + bu) /\ h' = h /\ vn' = vn + cmV (nowT now) d P /\
   (P = [] -> WS S' now' bu' le' mo' T' (nowT n) b (l - 0) (m + (tickW n b p).2) (tkN (nowT n) h.toNat (tickW n b p).1).1) := by
 have hh := hz.hd
 obtain ⟨L, ⟨v1, v2, v3, v4, v5, v6, v7, v8, v9, v10, v11, v12, v13, v15, ⟨o0, o1, o2, o3, o4, o5, o6, _⟩, ⟨t0, t1, t2, t3, t4, t5, t6, t7, _⟩, hx⟩, q2⟩ := q
 obtain ⟨s1, _⟩ := s.tick hm o0 o1 o2 o3 o4 o5 o6
 obtain ⟨s2, hL, _⟩ := s1.take (k := h) (by omega) t0 t1 t2 t3 t4 t5 t6 t7
 obtain ⟨N, P, n1, n2, n3, n4, n5, n6, n7, n8, n9, n10⟩ := q2 c d a B hz
 refine ⟨N, P, hL.symm.trans n1, n2, n3, n4, n5, n6, n7, n8, n9, n10, fun hP => ?_⟩
 subst hP
 have hx2 : [S', now', bu', le', mo', T'] = [v8, v9, v10, v11, v12, v13] := hx n1
 injection hx2 with g1 g2
 injection g2 with g2 g3
 injection g3 with g3 g4
 injection g4 with g4 g5
 injection g5 with g5 g6
 injection g6 with g6 _
 have hl : (tkN (nowT n) h.toNat (tickW n b p).1).2 = [] := hL.symm.trans n1
 rw [hl] at s2
 subst g1 g2 g3 g4 g5 g6
 exact s2
theorem WS.quiet {O c : Int} {d a : Nat -> Int} (s : WS S now bu le mo T n b l m p) (hz : LZ S now bu le mo T h ln vn D c d a []) (h1 : h = 1) (hm : m + b <= 1152921504606846976) (q : Lu [S, now, bu, le, mo, T, h, ln, vn, D] [S', now', bu', le', mo', T', h', ln', vn', D', O]) (hr : (tkN (nowT n) 1 (tickW n b p).1).2 = []) :
 WS S' now' bu' le' mo' T' (nowT n) b (l - 0) (m + (tickW n b p).2) (tkN (nowT n) 1 (tickW n b p).1).1 /\ LZ S' now' bu' le' mo' T' h' ln' vn' D' c d a [] /\ dc O = [] /\ now' = nowT now /\ bu' = bu /\ (mo <= mo' /\ mo' <= mo + bu) /\ h' = 1 /\ vn' = vn := by
 subst h1
 obtain ⟨N, P, t1, t2, t3, t4, t5, t6, t7, t8, t9, t10, t11⟩ := s.tickL hz hm q
 have hP : P = [] := DL (R := []) (hr.symm.trans t1)
 subst hP
 have hN : N = [] := by
  cases N with
  | nil => rfl
  | cons x N => cases t3
 subst hN
 rw [L2, L3] at t4
 exact ⟨t11 rfl, t4, t5, t6, t7, t8, t9, t10.trans (Int.add_zero _)⟩
theorem Wx : ∀ {l : List Nat} {k : Nat}, l.Nodup -> (∀ i, i ∈ l ↔ i = k) -> l = [k]
 | [], k, _, h => by have := (h k).2 rfl; cases this
 | [x], k, _, h => by rw [(h x).1 (by simp)]
 | x :: y :: l, k, hn, h => by
   have e1 := (h x).1 (by simp)
   have e2 := (h y).1 (by simp)
   subst e1 e2
   simp at hn
theorem PT : ∀ {l : List Nat}, (∀ i, i ∉ l) -> l = []
 | [], _ => rfl
 | x :: _, h => absurd (by simp) (h x)
end
end
end Go.Proofs.Ytnockichpnaoeaa.Ew
