/- Layer 19: the lazy layer's functions that read, and New. -/
import Derived.Test.YtnockichpnaoeaaHp
set_option linter.unusedVariables false
set_option linter.unusedSimpArgs false
namespace Go.Proofs.Ytnockichpnaoeaa.Ew
open Go Go.RowKit
noncomputable section
--P Try.prog G0

def lzS : Sh := .obj 49 [wsh, i64, i64, i64, lio]
def lzO : Ob := { j := 0, ty := 49, cs := [.ref 1, i64, i64, i64, lio] }
def wobL : Ob := { j := 1, ty := 102, tl := some k3, cs := [.sc .x, i64, i64, i64, i64, ltm] }
def DZ (xs : List Int) : RL := dc (env xs 9)
def lenD (xs : List Int) : Int := ((DZ xs).length : Int)
def kpZ : List Nat := [0, 1, 2, 3]
abbrev riD (xs : List Int) : Prop := 0 ≤ env xs 10 ∧ env xs 10 < lenD xs
def f36 (_ : Nat) (xs : List Int) : Int := b2i (decide (0 ≤ env xs 10) && decide (env xs 10 < lenD xs))
def z34 : Ent := ⟨334, 34, [lzS], [], kpZ, .lt .b 0, z0, T0⟩
def z36 : Ent := ⟨336, 36, [lzS, i64], [], kpZ, bS, f36, fun xs => lenD xs ≤ 4096⟩
def z16 : Ent := ⟨316, 16, [lzS], [], kpZ, i64, fun _ xs => env xs 1, lenOK⟩
def z15 : Ent := ⟨315, 15, [lzS], [], kpZ, i64, fun _ xs => env xs 7, T0⟩
def z17 : Ent := ⟨317, 17, [lzS], [], kpZ, i64, fun _ xs => env xs 8, T0⟩
def pre23z (xs : List Int) : Prop := lenOK xs ∧ rowsOK k3 (SW xs) ∧ (SW xs).length = 2049
def z23 : Ent := ⟨323, 23, [lzS], [], kpZ, i64, fun _ xs => gC (SW xs) 2048 2, pre23z⟩
def fn21z (j : Nat) (xs : List Int) : Int := match j with
  | 0 => if riD xs then gC (DZ xs) (env xs 10).toNat 0 else 0
  | _ => b2i (decide (riD xs) && decide (gC (DZ xs) (env xs 10).toNat 0 ≠ 0))
def pre21z (xs : List Int) : Prop := lenD xs ≤ 4096 ∧ rowsOK intK (DZ xs)
def z21 : Ent := ⟨321, 21, [lzS, i64], [], kpZ, .tup [i64, bS], fn21z, pre21z⟩
abbrev riT (xs : List Int) : Prop := 0 ≤ env xs 10 ∧ env xs 10 < lenT xs
def fn22z (j : Nat) (xs : List Int) : Int := match j with
  | 0 => if riT xs then gC (TW xs) (env xs 10).toNat 4 else 0
  | _ => b2i (decide (riT xs) && decide (gC (TW xs) (env xs 10).toNat 4 ≠ 0))
def z22 : Ent := ⟨322, 22, [lzS, i64], [], kpZ, .tup [i64, bS], fn22z, preR⟩
def cZ0 : Ctx := ⟨[], []⟩
def cZ1 : Ctx := ⟨[z34, z36, e18, e16, e29], []⟩
def cZ1n : Ctx := cZ1.nm

def ob_z34 : E := (.lit .b 1)
def es_z34 : List E := []
theorem ev_z34 : evE Try.prog G0 (tabOf cZ0.fs) (ltOf cZ0.ls) 40 10 z34 = some (ob_z34, es_z34) := by kernel_rfl

def ob_z36 : E := (.lit .b 1)
def es_z36 : List E := [(.and (.cmp .geq (vI 10) (lI 0)) (.cmp .lss (vI 10) (aI 0 0 [(vX 9)])))]
theorem ev_z36 : evE Try.prog G0 (tabOf cZ0.fs) (ltOf cZ0.ls) 40 10 z36 = some (ob_z36, es_z36) := by kernel_rfl

def defs_z16 : List (Nat × E) := [(640000115200256, (aI 100000018 0 [(vX 0), (vI 1), (vI 2), (vI 3), (vI 4), (vX 5)]))]
def ob_z16 : E := (.and (.app .b 100000334 1000000 [(vX 0), (vI 1), (vI 2), (vI 3), (vI 4), (vX 5), (vI 6), (vI 7), (vI 8), (vX 9)]) (.and (.app .b 100000018 1000000 [(vX 0), (vI 1), (vI 2), (vI 3), (vI 4), (vX 5)]) (dE defs_z16 0 1)))
def es_z16 : List E := [(vI 640000115200256)]
theorem ev_z16 : evE Try.prog G0 (tabOf cZ1n.fs) (ltOf cZ1n.ls) 40 10 z16 = some (ob_z16, es_z16) := by kernel_rfl

def defs_z15 : List (Nat × E) := []
def ob_z15 : E := (.app .b 100000334 1000000 [(vX 0), (vI 1), (vI 2), (vI 3), (vI 4), (vX 5), (vI 6), (vI 7), (vI 8), (vX 9)])
def es_z15 : List E := [(vI 7)]
theorem ev_z15 : evE Try.prog G0 (tabOf cZ1n.fs) (ltOf cZ1n.ls) 40 10 z15 = some (ob_z15, es_z15) := by kernel_rfl

def defs_z17 : List (Nat × E) := []
def ob_z17 : E := (.app .b 100000334 1000000 [(vX 0), (vI 1), (vI 2), (vI 3), (vI 4), (vX 5), (vI 6), (vI 7), (vI 8), (vX 9)])
def es_z17 : List E := [(vI 8)]
theorem ev_z17 : evE Try.prog G0 (tabOf cZ1n.fs) (ltOf cZ1n.ls) 40 10 z17 = some (ob_z17, es_z17) := by kernel_rfl

def defs_z23 : List (Nat × E) := [(640000102400256, (aI 100000016 0 [(vX 0), (vI 1), (vI 2), (vI 3), (vI 4), (vX 5)]))]
def ob_z23 : E := (.and (.app .b 100000334 1000000 [(vX 0), (vI 1), (vI 2), (vI 3), (vI 4), (vX 5), (vI 6), (vI 7), (vI 8), (vX 9)]) (.and (.app .b 100000016 1000000 [(vX 0), (vI 1), (vI 2), (vI 3), (vI 4), (vX 5)]) (dE defs_z23 0 1)))
def es_z23 : List E := [(vI 640000102400256)]
theorem ev_z23 : evE Try.prog G0 (tabOf cZ1n.fs) (ltOf cZ1n.ls) 40 10 z23 = some (ob_z23, es_z23) := by kernel_rfl

def defs_z21 : List (Nat × E) := [(640002150400256, (.app .b 100000336 0 [(vX 0), (vI 1), (vI 2), (vI 3), (vI 4), (vX 5), (vI 6), (vI 7), (vI 8), (vX 9), (vI 10)]))]
def q_z21_0 : E := (.and (.cmp .geq (vI 10) (lI 0)) (.cmp .lss (vI 10) (aI 0 0 [(vX 9)])))
def q_z21_1 : E := (.or (.not (.var .b 640002150400256)) (.cmp .eql (aI 0 1 [(vX 9), (vI 10), (.lit .x 0)]) (lI 0)))
def ob_z21 : E := (.and (.and (.app .b 100000334 1000000 [(vX 0), (vI 1), (vI 2), (vI 3), (vI 4), (vX 5), (vI 6), (vI 7), (vI 8), (vX 9)]) (.and (.and (.app .b 100000336 1000000 [(vX 0), (vI 1), (vI 2), (vI 3), (vI 4), (vX 5), (vI 6), (vI 7), (vI 8), (vX 9), (vI 10)]) (dE defs_z21 0 1)) (.or (.not (.var .b 640002150400256)) q_z21_0))) (.or q_z21_1 q_z21_0))
def es_z21 : List E := [(.ite q_z21_1 (lI 0) (aI 0 1 [(vX 9), (vI 10), (.lit .x 0)])), (.not q_z21_1)]
theorem ev_z21 : evE Try.prog G0 (tabOf cZ1n.fs) (ltOf cZ1n.ls) 40 10 z21 = some (ob_z21, es_z21) := by kernel_rfl

def a_z22_0 : List E := [(vX 0), (vI 1), (vI 2), (vI 3), (vI 4), (vX 5), (vI 10)]
def defs_z22 : List (Nat × E) := [(640000185600256, (aI 100000029 0 a_z22_0)),
  (640000185600257, (.app .b 100000029 1 a_z22_0))]
def ob_z22 : E := (.and (.app .b 100000334 1000000 [(vX 0), (vI 1), (vI 2), (vI 3), (vI 4), (vX 5), (vI 6), (vI 7), (vI 8), (vX 9)]) (.and (.app .b 100000029 1000000 [(vX 0), (vI 1), (vI 2), (vI 3), (vI 4), (vX 5), (vI 10)]) (dE defs_z22 0 2)))
def es_z22 : List E := [(vI 640000185600256), (.var .b 640000185600257)]
theorem ev_z22 : evE Try.prog G0 (tabOf cZ1n.fs) (ltOf cZ1n.ls) 40 10 z22 = some (ob_z22, es_z22) := by kernel_rfl

theorem cZ0ok : cZ0.OK Try.prog G0 := Ctx.OK.nil
theorem okz34 : EntryOK Try.prog G0 z34 := cZ0ok.entryP mixed ev_z34 _ rfl _ rfl fun xs hf hp => by
  obtain ⟨l, hl, hF⟩ := ctx_P (l0 := cZ0.l)
  show ob_z34.tt cZ0.l.F _ = true ∧ outsP z34.fn _ cZ0.l.F _ _ _ _
  rw [hl]
  refine ⟨rfl, trivial⟩
theorem fits10 {k1 k2 k3 k4 k5 k6 k7 k8 k9 k10 : K} {xs : List Int} (h : fits [k1, k2, k3, k4, k5, k6, k7, k8, k9, k10] xs) : ∃ a b c d e f g i j k, xs = [a, b, c, d, e, f, g, i, j, k] := by
  have := fits_length h
  match xs, this with
  | [a, b, c, d, e, f, g, i, j, k], _ => exact ⟨a, b, c, d, e, f, g, i, j, k, rfl⟩
theorem fits11 {k1 k2 k3 k4 k5 k6 k7 k8 k9 k10 k11 : K} {xs : List Int} (h : fits [k1, k2, k3, k4, k5, k6, k7, k8, k9, k10, k11] xs) : ∃ a b c d e f g i j k l, xs = [a, b, c, d, e, f, g, i, j, k, l] := by
  have := fits_length h
  match xs, this with
  | [a, b, c, d, e, f, g, i, j, k, l], _ => exact ⟨a, b, c, d, e, f, g, i, j, k, l, rfl⟩
theorem okz36 : EntryOK Try.prog G0 z36 := cZ0ok.entryP mixed ev_z36 _ rfl _ rfl fun xs hf hp => by
  obtain ⟨l, hl, hF⟩ := ctx_P (l0 := cZ0.l)
  show ob_z36.tt cZ0.l.F _ = true ∧ outsP z36.fn _ cZ0.l.F _ _ _ _
  rw [hl]
  obtain ⟨S, now, bu, le, mo, T, h, ln, vn, D, i, rfl⟩ := fits11 hf
  obtain ⟨h0, h1, h2, h3, h4, h5, h6, h7, h8, h9, h10, _⟩ := hf
  simp only [norm_i, norm_x] at h10
  replace hp : ((dc D).length : Int) ≤ 4096 := hp
  refine ⟨?_, ?_, trivial⟩
  all_goals simp (disch := omega) only [ob_z36, es_z36, z36, f36, lenD, DZ, ewA, ewL, preC, binI, dvI, shI, cmpB, env, bi, List.headD, List.tail, List.map, Nat.reduceAdd, ewB, ewM, if_true, if_false, implies_true, forall_const, ne_eq, reduceCtorEq, Int.reduceEq, Int.reduceLT, Int.reduceLE, Int.reduceToNat, Int.reduceAdd, Int.reduceSub, Int.reduceMul, Int.reduceNeg, Int.reduceBEq, Nat.reduceLT, Nat.reduceEqDiff, h10]
theorem cZ1ok : cZ1.OK Try.prog G0 := ((((Ctx.OK.nil.addF ok29 rfl).addF ok16 rfl).addF ok18 rfl).addF okz36 rfl).addF okz34 rfl

theorem okz16 : EntryOK Try.prog G0 z16 := cZ1ok.nm.entryR mixed ev_z16 _ rfl _ rfl fun xs hf hp => by
  obtain ⟨l, hl, hF⟩ := ctx_P (l0 := cZ1n.l)
  show ∃ ρ : Nat → Int, _ ∧ ob_z16.tt cZ1n.l.F ρ = true ∧ outsP z16.fn _ cZ1n.l.F ρ _ _ _
  rw [hl]
  have F18 := FC (k := 100000018) rfl (hF e18.nm (by rfl) (by decide))
  have F334 := FC (k := 100000334) rfl (hF z34.nm (by rfl) (by decide))
  replace hf : fits [.x, (.i .i64), (.i .i64), (.i .i64), (.i .i64), .x, (.i .i64), (.i .i64), (.i .i64), .x] xs := hf
  obtain ⟨S, xs0, hx0, hS, hf0⟩ := fits_cons hf
  obtain ⟨now, xs1, hx1, hnow, hf1⟩ := fits_cons hf0
  obtain ⟨bu, xs2, hx2, hbu, hf2⟩ := fits_cons hf1
  obtain ⟨le, xs3, hx3, hle, hf3⟩ := fits_cons hf2
  obtain ⟨mo, xs4, hx4, hmo, hf4⟩ := fits_cons hf3
  obtain ⟨T, xs5, hx5, hT, hf5⟩ := fits_cons hf4
  obtain ⟨h, xs6, hx6, hh, hf6⟩ := fits_cons hf5
  obtain ⟨ln, xs7, hx7, hln, hf7⟩ := fits_cons hf6
  obtain ⟨vn, xs8, hx8, hvn, hf8⟩ := fits_cons hf7
  obtain ⟨D, xs9, hx9, hD, hf9⟩ := fits_cons hf8
  have hxn := fits_nil hf9
  subst hxn hx9 hx8 hx7 hx6 hx5 hx4 hx3 hx2 hx1 hx0
  simp only [norm_i] at hnow hbu hle hmo hh hln hvn
  obtain ⟨ρ, hρ, hd⟩ := solve (F := l.F) 10 defs_z16 (by kernel_rfl) [S, now, bu, le, mo, T, h, ln, vn, D]
  have hDf := dE_tt (by kernel_rfl) hd
  refine ⟨ρ, hρ, ?_⟩
  have r0 : ρ 0 = S := hρ 0 (by decide)
  have r1 : ρ 1 = now := hρ 1 (by decide)
  have r2 : ρ 2 = bu := hρ 2 (by decide)
  have r3 : ρ 3 = le := hρ 3 (by decide)
  have r4 : ρ 4 = mo := hρ 4 (by decide)
  have r5 : ρ 5 = T := hρ 5 (by decide)
  have r6 : ρ 6 = h := hρ 6 (by decide)
  have r7 : ρ 7 = ln := hρ 7 (by decide)
  have r8 : ρ 8 = vn := hρ 8 (by decide)
  have r9 : ρ 9 = D := hρ 9 (by decide)
  obtain ⟨v1, hv1, hd1, hn1⟩ := nmd hd 0 rfl
  simp only [norm_i] at hn1
  simp (disch := omega) only [norm_i, F18, Ent.nm_fn, r0, r1, hnow, r2, hbu, r3, hle, r4, hmo, r5, r6, hh, r7, hln, r8, hvn, r9, hv1, hn1, ewA, ewL, preC, binI, dvI, shI, cmpB, env, bi, List.headD, List.tail, List.map, Nat.reduceAdd, ewB, ewM, if_true, if_false, implies_true, forall_const, ne_eq, reduceCtorEq, Int.reduceEq, Int.reduceLT, Int.reduceLE, Int.reduceToNat, Int.reduceAdd, Int.reduceSub, Int.reduceMul, Int.reduceNeg, Int.reduceBEq, Nat.reduceLT, Nat.reduceEqDiff] at hd1
  have hSS := And.intro (And.intro (And.intro (And.intro F18 F334) (And.intro r0 (And.intro r1 hnow))) (And.intro (And.intro r2 (And.intro hbu r3)) (And.intro hle (And.intro r4 hmo)))) (And.intro (And.intro (And.intro r5 r6) (And.intro hh (And.intro r7 hln))) (And.intro (And.intro r8 (And.intro hvn r9)) (And.intro hv1 (And.intro hn1 hDf))))
  have y : e18.pre [S, now, bu, le, mo, T] := hp
  have z : v1 = now := hd1.trans hnow
  have y34 : z34.pre [S, now, bu, le, mo, T, h, ln, vn, D] := trivial
  refine ⟨?_, ?_, trivial⟩
  all_goals simp (disch := omega) only [ob_z16, es_z16, z16, ewA, ewL, preC, binI, dvI, shI, cmpB, env, bi, List.headD, List.tail, List.map, Nat.reduceAdd, ewB, ewM, if_true, if_false, implies_true, forall_const, ne_eq, reduceCtorEq, Int.reduceEq, Int.reduceLT, Int.reduceLE, Int.reduceToNat, Int.reduceAdd, Int.reduceSub, Int.reduceMul, Int.reduceNeg, Int.reduceBEq, Nat.reduceLT, Nat.reduceEqDiff, hSS, y, y34, z]

theorem okz15 : EntryOK Try.prog G0 z15 := cZ1ok.nm.entryR mixed ev_z15 _ rfl _ rfl fun xs hf hp => by
  obtain ⟨l, hl, hF⟩ := ctx_P (l0 := cZ1n.l)
  show ∃ ρ : Nat → Int, _ ∧ ob_z15.tt cZ1n.l.F ρ = true ∧ outsP z15.fn _ cZ1n.l.F ρ _ _ _
  rw [hl]
  have F334 := FC (k := 100000334) rfl (hF z34.nm (by rfl) (by decide))
  replace hf : fits [.x, (.i .i64), (.i .i64), (.i .i64), (.i .i64), .x, (.i .i64), (.i .i64), (.i .i64), .x] xs := hf
  obtain ⟨S, xs0, hx0, hS, hf0⟩ := fits_cons hf
  obtain ⟨now, xs1, hx1, hnow, hf1⟩ := fits_cons hf0
  obtain ⟨bu, xs2, hx2, hbu, hf2⟩ := fits_cons hf1
  obtain ⟨le, xs3, hx3, hle, hf3⟩ := fits_cons hf2
  obtain ⟨mo, xs4, hx4, hmo, hf4⟩ := fits_cons hf3
  obtain ⟨T, xs5, hx5, hT, hf5⟩ := fits_cons hf4
  obtain ⟨h, xs6, hx6, hh, hf6⟩ := fits_cons hf5
  obtain ⟨ln, xs7, hx7, hln, hf7⟩ := fits_cons hf6
  obtain ⟨vn, xs8, hx8, hvn, hf8⟩ := fits_cons hf7
  obtain ⟨D, xs9, hx9, hD, hf9⟩ := fits_cons hf8
  have hxn := fits_nil hf9
  subst hxn hx9 hx8 hx7 hx6 hx5 hx4 hx3 hx2 hx1 hx0
  simp only [norm_i] at hnow hbu hle hmo hh hln hvn
  obtain ⟨ρ, hρ⟩ : ∃ ρ : Nat → Int, ∀ i_, i_ < 10 → ρ i_ = env [S, now, bu, le, mo, T, h, ln, vn, D] i_ := ⟨env [S, now, bu, le, mo, T, h, ln, vn, D], fun _ _ => rfl⟩
  refine ⟨ρ, hρ, ?_⟩
  have r0 : ρ 0 = S := hρ 0 (by decide)
  have r1 : ρ 1 = now := hρ 1 (by decide)
  have r2 : ρ 2 = bu := hρ 2 (by decide)
  have r3 : ρ 3 = le := hρ 3 (by decide)
  have r4 : ρ 4 = mo := hρ 4 (by decide)
  have r5 : ρ 5 = T := hρ 5 (by decide)
  have r6 : ρ 6 = h := hρ 6 (by decide)
  have r7 : ρ 7 = ln := hρ 7 (by decide)
  have r8 : ρ 8 = vn := hρ 8 (by decide)
  have r9 : ρ 9 = D := hρ 9 (by decide)
  have hSS := And.intro (And.intro (And.intro (And.intro F334 r0) (And.intro r1 hnow)) (And.intro (And.intro r2 hbu) (And.intro r3 (And.intro hle r4)))) (And.intro (And.intro (And.intro hmo r5) (And.intro r6 hh)) (And.intro (And.intro r7 hln) (And.intro r8 (And.intro hvn r9))))
  have y34 : z34.pre [S, now, bu, le, mo, T, h, ln, vn, D] := trivial
  refine ⟨?_, ?_, trivial⟩
  all_goals simp (disch := omega) only [ob_z15, es_z15, z15, ewA, ewL, preC, binI, dvI, shI, cmpB, env, bi, List.headD, List.tail, List.map, Nat.reduceAdd, ewB, ewM, if_true, if_false, implies_true, forall_const, ne_eq, reduceCtorEq, Int.reduceEq, Int.reduceLT, Int.reduceLE, Int.reduceToNat, Int.reduceAdd, Int.reduceSub, Int.reduceMul, Int.reduceNeg, Int.reduceBEq, Nat.reduceLT, Nat.reduceEqDiff, hSS, y34]

theorem okz17 : EntryOK Try.prog G0 z17 := cZ1ok.nm.entryR mixed ev_z17 _ rfl _ rfl fun xs hf hp => by
  obtain ⟨l, hl, hF⟩ := ctx_P (l0 := cZ1n.l)
  show ∃ ρ : Nat → Int, _ ∧ ob_z17.tt cZ1n.l.F ρ = true ∧ outsP z17.fn _ cZ1n.l.F ρ _ _ _
  rw [hl]
  have F334 := FC (k := 100000334) rfl (hF z34.nm (by rfl) (by decide))
  replace hf : fits [.x, (.i .i64), (.i .i64), (.i .i64), (.i .i64), .x, (.i .i64), (.i .i64), (.i .i64), .x] xs := hf
  obtain ⟨S, xs0, hx0, hS, hf0⟩ := fits_cons hf
  obtain ⟨now, xs1, hx1, hnow, hf1⟩ := fits_cons hf0
  obtain ⟨bu, xs2, hx2, hbu, hf2⟩ := fits_cons hf1
  obtain ⟨le, xs3, hx3, hle, hf3⟩ := fits_cons hf2
  obtain ⟨mo, xs4, hx4, hmo, hf4⟩ := fits_cons hf3
  obtain ⟨T, xs5, hx5, hT, hf5⟩ := fits_cons hf4
  obtain ⟨h, xs6, hx6, hh, hf6⟩ := fits_cons hf5
  obtain ⟨ln, xs7, hx7, hln, hf7⟩ := fits_cons hf6
  obtain ⟨vn, xs8, hx8, hvn, hf8⟩ := fits_cons hf7
  obtain ⟨D, xs9, hx9, hD, hf9⟩ := fits_cons hf8
  have hxn := fits_nil hf9
  subst hxn hx9 hx8 hx7 hx6 hx5 hx4 hx3 hx2 hx1 hx0
  simp only [norm_i] at hnow hbu hle hmo hh hln hvn
  obtain ⟨ρ, hρ⟩ : ∃ ρ : Nat → Int, ∀ i_, i_ < 10 → ρ i_ = env [S, now, bu, le, mo, T, h, ln, vn, D] i_ := ⟨env [S, now, bu, le, mo, T, h, ln, vn, D], fun _ _ => rfl⟩
  refine ⟨ρ, hρ, ?_⟩
  have r0 : ρ 0 = S := hρ 0 (by decide)
  have r1 : ρ 1 = now := hρ 1 (by decide)
  have r2 : ρ 2 = bu := hρ 2 (by decide)
  have r3 : ρ 3 = le := hρ 3 (by decide)
  have r4 : ρ 4 = mo := hρ 4 (by decide)
  have r5 : ρ 5 = T := hρ 5 (by decide)
  have r6 : ρ 6 = h := hρ 6 (by decide)
  have r7 : ρ 7 = ln := hρ 7 (by decide)
  have r8 : ρ 8 = vn := hρ 8 (by decide)
  have r9 : ρ 9 = D := hρ 9 (by decide)
  have hSS := And.intro (And.intro (And.intro (And.intro F334 r0) (And.intro r1 hnow)) (And.intro (And.intro r2 hbu) (And.intro r3 (And.intro hle r4)))) (And.intro (And.intro (And.intro hmo r5) (And.intro r6 hh)) (And.intro (And.intro r7 hln) (And.intro r8 (And.intro hvn r9))))
  have y34 : z34.pre [S, now, bu, le, mo, T, h, ln, vn, D] := trivial
  refine ⟨?_, ?_, trivial⟩
  all_goals simp (disch := omega) only [ob_z17, es_z17, z17, ewA, ewL, preC, binI, dvI, shI, cmpB, env, bi, List.headD, List.tail, List.map, Nat.reduceAdd, ewB, ewM, if_true, if_false, implies_true, forall_const, ne_eq, reduceCtorEq, Int.reduceEq, Int.reduceLT, Int.reduceLE, Int.reduceToNat, Int.reduceAdd, Int.reduceSub, Int.reduceMul, Int.reduceNeg, Int.reduceBEq, Nat.reduceLT, Nat.reduceEqDiff, hSS, y34]

theorem okz23 : EntryOK Try.prog G0 z23 := cZ1ok.nm.entryR mixed ev_z23 _ rfl _ rfl fun xs hf hp => by
  obtain ⟨l, hl, hF⟩ := ctx_P (l0 := cZ1n.l)
  show ∃ ρ : Nat → Int, _ ∧ ob_z23.tt cZ1n.l.F ρ = true ∧ outsP z23.fn _ cZ1n.l.F ρ _ _ _
  rw [hl]
  have F16 := FC (k := 100000016) rfl (hF e16.nm (by rfl) (by decide))
  have F334 := FC (k := 100000334) rfl (hF z34.nm (by rfl) (by decide))
  replace hf : fits [.x, (.i .i64), (.i .i64), (.i .i64), (.i .i64), .x, (.i .i64), (.i .i64), (.i .i64), .x] xs := hf
  obtain ⟨S, xs0, hx0, hS, hf0⟩ := fits_cons hf
  obtain ⟨now, xs1, hx1, hnow, hf1⟩ := fits_cons hf0
  obtain ⟨bu, xs2, hx2, hbu, hf2⟩ := fits_cons hf1
  obtain ⟨le, xs3, hx3, hle, hf3⟩ := fits_cons hf2
  obtain ⟨mo, xs4, hx4, hmo, hf4⟩ := fits_cons hf3
  obtain ⟨T, xs5, hx5, hT, hf5⟩ := fits_cons hf4
  obtain ⟨h, xs6, hx6, hh, hf6⟩ := fits_cons hf5
  obtain ⟨ln, xs7, hx7, hln, hf7⟩ := fits_cons hf6
  obtain ⟨vn, xs8, hx8, hvn, hf8⟩ := fits_cons hf7
  obtain ⟨D, xs9, hx9, hD, hf9⟩ := fits_cons hf8
  have hxn := fits_nil hf9
  subst hxn hx9 hx8 hx7 hx6 hx5 hx4 hx3 hx2 hx1 hx0
  simp only [norm_i] at hnow hbu hle hmo hh hln hvn
  obtain ⟨ρ, hρ, hd⟩ := solve (F := l.F) 10 defs_z23 (by kernel_rfl) [S, now, bu, le, mo, T, h, ln, vn, D]
  have hDf := dE_tt (by kernel_rfl) hd
  refine ⟨ρ, hρ, ?_⟩
  have r0 : ρ 0 = S := hρ 0 (by decide)
  have r1 : ρ 1 = now := hρ 1 (by decide)
  have r2 : ρ 2 = bu := hρ 2 (by decide)
  have r3 : ρ 3 = le := hρ 3 (by decide)
  have r4 : ρ 4 = mo := hρ 4 (by decide)
  have r5 : ρ 5 = T := hρ 5 (by decide)
  have r6 : ρ 6 = h := hρ 6 (by decide)
  have r7 : ρ 7 = ln := hρ 7 (by decide)
  have r8 : ρ 8 = vn := hρ 8 (by decide)
  have r9 : ρ 9 = D := hρ 9 (by decide)
  obtain ⟨v1, hv1, hd1, hn1⟩ := nmd hd 0 rfl
  simp only [norm_i] at hn1
  simp (disch := omega) only [norm_i, F16, Ent.nm_fn, r0, r1, hnow, r2, hbu, r3, hle, r4, hmo, r5, r6, hh, r7, hln, r8, hvn, r9, hv1, hn1, ewA, ewL, preC, binI, dvI, shI, cmpB, env, bi, List.headD, List.tail, List.map, Nat.reduceAdd, ewB, ewM, if_true, if_false, implies_true, forall_const, ne_eq, reduceCtorEq, Int.reduceEq, Int.reduceLT, Int.reduceLE, Int.reduceToNat, Int.reduceAdd, Int.reduceSub, Int.reduceMul, Int.reduceNeg, Int.reduceBEq, Nat.reduceLT, Nat.reduceEqDiff] at hd1
  have hSS := And.intro (And.intro (And.intro (And.intro F16 F334) (And.intro r0 (And.intro r1 hnow))) (And.intro (And.intro r2 (And.intro hbu r3)) (And.intro hle (And.intro r4 hmo)))) (And.intro (And.intro (And.intro r5 r6) (And.intro hh (And.intro r7 hln))) (And.intro (And.intro r8 (And.intro hvn r9)) (And.intro hv1 (And.intro hn1 hDf))))
  have y : e16.pre [S, now, bu, le, mo, T] := hp
  have y34 : z34.pre [S, now, bu, le, mo, T, h, ln, vn, D] := trivial
  refine ⟨?_, ?_, trivial⟩
  all_goals simp (disch := omega) only [ob_z23, es_z23, z23, ewA, ewL, preC, binI, dvI, shI, cmpB, env, bi, List.headD, List.tail, List.map, Nat.reduceAdd, ewB, ewM, if_true, if_false, implies_true, forall_const, ne_eq, reduceCtorEq, Int.reduceEq, Int.reduceLT, Int.reduceLE, Int.reduceToNat, Int.reduceAdd, Int.reduceSub, Int.reduceMul, Int.reduceNeg, Int.reduceBEq, Nat.reduceLT, Nat.reduceEqDiff, hSS, y, y34]
  exact hd1.symm

theorem okz22 : EntryOK Try.prog G0 z22 := cZ1ok.nm.entryR mixed ev_z22 _ rfl _ rfl fun xs hf hp => by
  obtain ⟨l, hl, hF⟩ := ctx_P (l0 := cZ1n.l)
  show ∃ ρ : Nat → Int, _ ∧ ob_z22.tt cZ1n.l.F ρ = true ∧ outsP z22.fn _ cZ1n.l.F ρ _ _ _
  rw [hl]
  have F29 := FC (k := 100000029) rfl (hF e29.nm (by rfl) (by decide))
  have F334 := FC (k := 100000334) rfl (hF z34.nm (by rfl) (by decide))
  replace hf : fits [.x, (.i .i64), (.i .i64), (.i .i64), (.i .i64), .x, (.i .i64), (.i .i64), (.i .i64), .x, (.i .i64)] xs := hf
  obtain ⟨S, xs0, hx0, hS, hf0⟩ := fits_cons hf
  obtain ⟨now, xs1, hx1, hnow, hf1⟩ := fits_cons hf0
  obtain ⟨bu, xs2, hx2, hbu, hf2⟩ := fits_cons hf1
  obtain ⟨le, xs3, hx3, hle, hf3⟩ := fits_cons hf2
  obtain ⟨mo, xs4, hx4, hmo, hf4⟩ := fits_cons hf3
  obtain ⟨T, xs5, hx5, hT, hf5⟩ := fits_cons hf4
  obtain ⟨h, xs6, hx6, hh, hf6⟩ := fits_cons hf5
  obtain ⟨ln, xs7, hx7, hln, hf7⟩ := fits_cons hf6
  obtain ⟨vn, xs8, hx8, hvn, hf8⟩ := fits_cons hf7
  obtain ⟨D, xs9, hx9, hD, hf9⟩ := fits_cons hf8
  obtain ⟨i, xs10, hx10, hi, hf10⟩ := fits_cons hf9
  have hxn := fits_nil hf10
  subst hxn hx10 hx9 hx8 hx7 hx6 hx5 hx4 hx3 hx2 hx1 hx0
  simp only [norm_i] at hnow hbu hle hmo hh hln hvn hi
  obtain ⟨ρ, hρ, hd⟩ := solve (F := l.F) 11 defs_z22 (by kernel_rfl) [S, now, bu, le, mo, T, h, ln, vn, D, i]
  have hDf := dE_tt (by kernel_rfl) hd
  refine ⟨ρ, hρ, ?_⟩
  have r0 : ρ 0 = S := hρ 0 (by decide)
  have r1 : ρ 1 = now := hρ 1 (by decide)
  have r2 : ρ 2 = bu := hρ 2 (by decide)
  have r3 : ρ 3 = le := hρ 3 (by decide)
  have r4 : ρ 4 = mo := hρ 4 (by decide)
  have r5 : ρ 5 = T := hρ 5 (by decide)
  have r6 : ρ 6 = h := hρ 6 (by decide)
  have r7 : ρ 7 = ln := hρ 7 (by decide)
  have r8 : ρ 8 = vn := hρ 8 (by decide)
  have r9 : ρ 9 = D := hρ 9 (by decide)
  have r10 : ρ 10 = i := hρ 10 (by decide)
  obtain ⟨v1, hv1, hd1, hn1⟩ := nmd hd 0 rfl
  obtain ⟨v2, hv2, hd2, hn2⟩ := nmd hd 1 rfl
  simp only [norm_i] at hn1
  simp (disch := omega) only [norm_i, a_z22_0, F29, Ent.nm_fn, r0, r1, hnow, r2, hbu, r3, hle, r4, hmo, r5, r6, hh, r7, hln, r8, hvn, r9, r10, hi, hv1, hn1, hv2, hn2, ewA, ewL, preC, binI, dvI, shI, cmpB, env, bi, List.headD, List.tail, List.map, Nat.reduceAdd, ewB, ewM, if_true, if_false, implies_true, forall_const, ne_eq, reduceCtorEq, Int.reduceEq, Int.reduceLT, Int.reduceLE, Int.reduceToNat, Int.reduceAdd, Int.reduceSub, Int.reduceMul, Int.reduceNeg, Int.reduceBEq, Nat.reduceLT, Nat.reduceEqDiff] at hd1 hd2
  have hSS := And.intro (And.intro (And.intro (And.intro F29 (And.intro F334 r0)) (And.intro r1 (And.intro hnow r2))) (And.intro (And.intro hbu (And.intro r3 hle)) (And.intro (And.intro r4 hmo) (And.intro r5 r6)))) (And.intro (And.intro (And.intro hh (And.intro r7 hln)) (And.intro r8 (And.intro hvn r9))) (And.intro (And.intro r10 (And.intro hi hv1)) (And.intro (And.intro hn1 hv2) (And.intro hn2 hDf))))
  have y : e29.pre [S, now, bu, le, mo, T, i] := hp
  have y34 : z34.pre [S, now, bu, le, mo, T, h, ln, vn, D] := trivial
  refine ⟨?_, ?_, ?_, trivial⟩
  all_goals simp (disch := omega) only [ob_z22, es_z22, z22, ewA, ewL, preC, binI, dvI, shI, cmpB, env, bi, List.headD, List.tail, List.map, Nat.reduceAdd, ewB, ewM, if_true, if_false, implies_true, forall_const, ne_eq, reduceCtorEq, Int.reduceEq, Int.reduceLT, Int.reduceLE, Int.reduceToNat, Int.reduceAdd, Int.reduceSub, Int.reduceMul, Int.reduceNeg, Int.reduceBEq, Nat.reduceLT, Nat.reduceEqDiff, hSS, y, y34]
  · exact hd1.symm
  · exact hd2.symm

theorem okz21 : EntryOK Try.prog G0 z21 := cZ1ok.nm.entryR mixed ev_z21 _ rfl _ rfl fun xs hf hp => by
  obtain ⟨l, hl, hF⟩ := ctx_P (l0 := cZ1n.l)
  show ∃ ρ : Nat → Int, _ ∧ ob_z21.tt cZ1n.l.F ρ = true ∧ outsP z21.fn _ cZ1n.l.F ρ _ _ _
  rw [hl]
  have F334 := FC (k := 100000334) rfl (hF z34.nm (by rfl) (by decide))
  have F336 := FC (k := 100000336) rfl (hF z36.nm (by rfl) (by decide))
  replace hf : fits [.x, (.i .i64), (.i .i64), (.i .i64), (.i .i64), .x, (.i .i64), (.i .i64), (.i .i64), .x, (.i .i64)] xs := hf
  obtain ⟨S, xs0, hx0, hS, hf0⟩ := fits_cons hf
  obtain ⟨now, xs1, hx1, hnow, hf1⟩ := fits_cons hf0
  obtain ⟨bu, xs2, hx2, hbu, hf2⟩ := fits_cons hf1
  obtain ⟨le, xs3, hx3, hle, hf3⟩ := fits_cons hf2
  obtain ⟨mo, xs4, hx4, hmo, hf4⟩ := fits_cons hf3
  obtain ⟨T, xs5, hx5, hT, hf5⟩ := fits_cons hf4
  obtain ⟨h, xs6, hx6, hh, hf6⟩ := fits_cons hf5
  obtain ⟨ln, xs7, hx7, hln, hf7⟩ := fits_cons hf6
  obtain ⟨vn, xs8, hx8, hvn, hf8⟩ := fits_cons hf7
  obtain ⟨D, xs9, hx9, hD, hf9⟩ := fits_cons hf8
  obtain ⟨i, xs10, hx10, hi, hf10⟩ := fits_cons hf9
  have hxn := fits_nil hf10
  subst hxn hx10 hx9 hx8 hx7 hx6 hx5 hx4 hx3 hx2 hx1 hx0
  simp only [norm_i] at hnow hbu hle hmo hh hln hvn hi
  obtain ⟨ρ, hρ, hd⟩ := solve (F := l.F) 11 defs_z21 (by kernel_rfl) [S, now, bu, le, mo, T, h, ln, vn, D, i]
  have hDf := dE_tt (by kernel_rfl) hd
  refine ⟨ρ, hρ, ?_⟩
  have r0 : ρ 0 = S := hρ 0 (by decide)
  have r1 : ρ 1 = now := hρ 1 (by decide)
  have r2 : ρ 2 = bu := hρ 2 (by decide)
  have r3 : ρ 3 = le := hρ 3 (by decide)
  have r4 : ρ 4 = mo := hρ 4 (by decide)
  have r5 : ρ 5 = T := hρ 5 (by decide)
  have r6 : ρ 6 = h := hρ 6 (by decide)
  have r7 : ρ 7 = ln := hρ 7 (by decide)
  have r8 : ρ 8 = vn := hρ 8 (by decide)
  have r9 : ρ 9 = D := hρ 9 (by decide)
  have r10 : ρ 10 = i := hρ 10 (by decide)
  obtain ⟨v1, hv1, hd1, hn1⟩ := nmd hd 0 rfl
  simp (disch := omega) only [norm_i, F336, Ent.nm_fn, r0, r1, hnow, r2, hbu, r3, hle, r4, hmo, r5, r6, hh, r7, hln, r8, hvn, r9, r10, hi, hv1, hn1, ewA, ewL, preC, binI, dvI, shI, cmpB, env, bi, List.headD, List.tail, List.map, Nat.reduceAdd, ewB, ewM, if_true, if_false, implies_true, forall_const, ne_eq, reduceCtorEq, Int.reduceEq, Int.reduceLT, Int.reduceLE, Int.reduceToNat, Int.reduceAdd, Int.reduceSub, Int.reduceMul, Int.reduceNeg, Int.reduceBEq, Nat.reduceLT, Nat.reduceEqDiff] at hd1
  have hSS := And.intro (And.intro (And.intro (And.intro F334 (And.intro F336 r0)) (And.intro r1 (And.intro hnow r2))) (And.intro (And.intro hbu (And.intro r3 hle)) (And.intro r4 (And.intro hmo r5)))) (And.intro (And.intro (And.intro r6 (And.intro hh r7)) (And.intro hln (And.intro r8 hvn))) (And.intro (And.intro r9 (And.intro r10 hi)) (And.intro hv1 (And.intro hn1 hDf))))
  obtain ⟨p1, p2⟩ := hp
  have y36 : z36.pre [S, now, bu, le, mo, T, h, ln, vn, D, i] := p1
  have y34 : z34.pre [S, now, bu, le, mo, T, h, ln, vn, D] := trivial
  replace p1 : ((dc D).length : Int) ≤ 4096 := p1
  replace p2 : rowsOK intK (dc D) := p2
  have z : v1 = b2i (decide (0 ≤ i) && decide (i < ((dc D).length : Int))) := hd1.trans (by show K.b.norm (b2i (decide (0 ≤ i) && decide (i < ((dc D).length : Int)))) = _; cases (decide (0 ≤ i) && decide (i < ((dc D).length : Int))) <;> rfl)
  by_cases hr : 0 ≤ i ∧ i < ((dc D).length : Int)
  · have z1 : v1 = 1 := by rw [z, decide_eq_true hr.1, decide_eq_true hr.2]; rfl
    have c0 := rowsC p2 (i := i.toNat) (j := 0) (by omega) rfl
    refine ⟨?_, ?_, ?_, trivial⟩
    all_goals simp (disch := omega) only [ob_z21, q_z21_0, q_z21_1, es_z21, z21, fn21z, riD, lenD, DZ, ewA, ewL, preC, binI, dvI, shI, cmpB, env, bi, List.headD, List.tail, List.map, Nat.reduceAdd, ewB, ewM, if_true, if_false, implies_true, forall_const, ne_eq, reduceCtorEq, Int.reduceEq, Int.reduceLT, Int.reduceLE, Int.reduceToNat, Int.reduceAdd, Int.reduceSub, Int.reduceMul, Int.reduceNeg, Int.reduceBEq, Nat.reduceLT, Nat.reduceEqDiff, hSS, y36, y34, z1, hr, gC_def, c0]
    · split
      · rename_i hz; exact hz
      · rfl
    · by_cases hz : gC (dc D) i.toNat 0 = 0
      · simp [hz]
      · rw [show (gC (dc D) i.toNat 0 == 0) = false from beq_eq_false_iff_ne.2 hz]; simp [hz]
  · have z1 : v1 = 0 := by
      rw [z]; have : ¬ (decide (0 ≤ i) && decide (i < ((dc D).length : Int))) = true := by simp; omega
      simp only [Bool.not_eq_true] at this
      rw [this]; rfl
    refine ⟨?_, ?_, ?_, trivial⟩
    all_goals simp (disch := omega) only [ob_z21, q_z21_0, q_z21_1, es_z21, z21, fn21z, riD, lenD, DZ, ewA, ewL, preC, binI, dvI, shI, cmpB, env, bi, List.headD, List.tail, List.map, Nat.reduceAdd, ewB, ewM, if_true, if_false, implies_true, forall_const, ne_eq, reduceCtorEq, Int.reduceEq, Int.reduceLT, Int.reduceLE, Int.reduceToNat, Int.reduceAdd, Int.reduceSub, Int.reduceMul, Int.reduceNeg, Int.reduceBEq, Nat.reduceLT, Nat.reduceEqDiff, hSS, y36, y34, z1, hr]
    rfl

end
end Go.Proofs.Ytnockichpnaoeaa.Ew
