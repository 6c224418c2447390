/- Texts that the claim needs, set narrow. -/
import Derived.Test.YtgpflpbldeflhaaDoort4
import Derived.Shelf.Small.Bits
import Derived.Ground.NamesProg
import Derived.Test.YtgpflpbldeflhaaDoorProg
import Derived.Lib.ItoaNum
set_option linter.unusedVariables false
set_option linter.unusedSimpArgs false
set_option maxHeartbeats 8000000
namespace Go.Proofs.YtgpflpbldeflhaaDoor.Ew.Sr
open Go Go.RowKit
noncomputable section
def pO : List Bool := [true,true,false,true,false]
def pI1 : List Bool := pO ++ [false,true,false,false,false,false]
def pI2 : List Bool := pO ++ [false,true,false,false,true,true,true,true,false,true,false,true,false]
def pI3 : List Bool := pO ++ [false,true,false,false,true,true,true,true,true,true,false,true,false]
def preI1 (xs : List Int) : Prop := LN (env xs 0) /\ 1 <= env xs 2 /\ env xs 2 <= env xs 1 /\ env xs 1 <= ((dc (env xs 0)).length : Int)
def Qe (xs ys : List Int) : Prop := env ys 0 = env xs 0 /\ env xs 2 <= env ys 1 /\ env ys 1 <= env xs 1 /\ (env ys 1 < env xs 1 -> at0 (vl (env xs 0)) (env ys 1).toNat < at0 (vl (env xs 0)) (env ys 1 - 1).toNat) /\ ∀ a : Int, 0 <= a -> a < env xs 2 -> So (vl (env xs 0)) a.toNat (env xs 2).toNat -> So (vl (env xs 0)) a.toNat (env ys 1).toNat
def muI1 (xs : List Int) : Nat := (env xs 1 - env xs 2).toNat
def lbI1 : LEnt := ⟨⟨9096, 999999, [Dt, i64, i64], [dO], [], .tup [i64], z0, preI1⟩, [0, 2, 7], [7], (List.range 18).map (· + 17), [.ex 2], 133, []⟩
def leI1 : LEnt := lbI1.fw (fnM Tryd.prog G0 96 pI1 lbI1 Qe)
def preI2 (xs : List Int) : Prop := LN (env xs 0) /\ ∃ a k : Int, 0 <= a /\ a <= env xs 1 /\ env xs 1 <= k /\ k < ((dc (env xs 0)).length : Int) /\ Lb (vl (env xs 0)) a.toNat (k + 1).toNat /\ Ins (vl (env xs 0)) a.toNat k.toNat (env xs 1).toNat
def Qf (xs ys : List Int) : Prop := ∀ a k : Int, 0 <= a -> a <= env xs 1 -> env xs 1 <= k -> k < ((dc (env xs 0)).length : Int) -> Lb (vl (env xs 0)) a.toNat (k + 1).toNat -> Ins (vl (env xs 0)) a.toNat k.toNat (env xs 1).toNat -> St (env xs 0) (env ys 0) a (k + 1) /\ So (vl (env ys 0)) a.toNat (k + 1).toNat
def muI2 (xs : List Int) : Nat := (env xs 1).toNat
def lbI2 : LEnt := ⟨⟨9196, 999999, [Dt, i64], [dO], [], .tup [], z0, preI2⟩, [0, 9], [], [9] ++ (List.range 31).map (· + 64), [.ex 4], 133, []⟩
def leI2 : LEnt := lbI2.fw (fnM Tryd.prog G0 96 pI2 lbI2 Qf)
def preI3 (xs : List Int) : Prop := LN (env xs 0) /\ 1 <= env xs 2 /\ env xs 2 <= env xs 1 /\ env xs 1 <= ((dc (env xs 0)).length : Int)
def Qg (xs ys : List Int) : Prop := St (env xs 0) (env ys 0) (env xs 2 - 1) (env xs 1)
def lbI3 : LEnt := ⟨⟨9296, 999999, [Dt, i64, i64], [dO], [], .tup [], z0, preI3⟩, [0, 2, 10], [], [10] ++ (List.range 32).map (· + 101), [.ex 6], 133, []⟩
def leI3 : LEnt := lbI3.fw (fnM Tryd.prog G0 96 pI3 lbI3 Qg)
def cO : Ctx := ⟨[], [(96, pI1, leI1), (96, pI2, leI2), (96, pI3, leI3)]⟩
def preO (xs : List Int) : Prop := In3 (env xs 0) (env xs 1) (env xs 2) /\ Lb (vl (env xs 0)) (env xs 1).toNat (env xs 2).toNat /\ env xs 1 < env xs 4 /\ env xs 4 <= env xs 2 /\ So (vl (env xs 0)) (env xs 1).toNat (env xs 4).toNat /\ 0 <= env xs 5
def NY (xs ys : List Int) : Prop := St (env xs 0) (env ys 0) (env xs 1) (env xs 2) /\ (env ys 1 = 0 -> env ys 2 ≠ 0 -> So (vl (env ys 0)) (env xs 1).toNat (env xs 2).toNat)
def muO (xs : List Int) : Nat := (5 - env xs 5).toNat
def lbO : LEnt := ⟨⟨9396, 999999, [Dt, i64, i64, .sc .b, i64, i64], [dO], [], .tup [.sc .b, .sc .b], z0, preO⟩, [0, 1, 2, 6, 7, 8], [6], [7, 8, 9, 10] ++ (List.range 120).map (· + 13), [.ex 0, .ret], 133, []⟩
def leO : LEnt := lbO.fw (fnM Tryd.prog G0 96 pO lbO NY)
def cO6 : Ctx := ⟨[], [(96, pO, leO)]⟩
def pre96 (xs : List Int) : Prop := In3 (env xs 0) (env xs 1) (env xs 2) /\ env xs 1 < env xs 2 /\ Lb (vl (env xs 0)) (env xs 1).toNat (env xs 2).toNat
def Qh (xs ys : List Int) : Prop := St (env xs 0) (env ys 0) (env xs 1) (env xs 2) /\ (env ys 1 ≠ 0 -> So (vl (env ys 0)) (env xs 1).toNat (env xs 2).toNat)
def b96 : Ent := ⟨96, 96, [Dt, i64, i64], [dO], [], .sc .b, z0, pre96⟩
def e96 : Ent := b96.fw (fnG Tryd.prog G0 b96 Qh)
theorem okI1 : Ae Tryd.prog G0 96 pI1 leI1 /\ PostOK leI1.ent Qe := by
 refine Ck.loopJ mixed muI1 false ⟨_, _, _, Tryd.func96, rfl, rfl⟩ 9096 rfl rfl ?_
 go_invoke
 refine ⟨_, _, _, _, rfl, by kernel_rfl, ?_⟩
 intro D b hb i hi hp φ hφ l hS hF ρ hρe hd
 have F97 := hF 97 e97 rfl rfl
 simp only [eqL, Nat.reduceAdd] at hρe
 have hSS := Jj (Jj F97 hS) (Jj hρe (Jj hb hi))
 obtain ⟨p1, p2, p3, p4⟩ := hp
 replace p1 : LN D := p1
 have p0 := p1.2
 simp only [ewY, seval] at p2 p3 p4
 have w1 : IntKind.i64.wrap (i + 1) = i + 1 := i64w (by omega) (by omega)
 have w2 : IntKind.i64.wrap (i - 1) = i - 1 := i64w (by omega) (by omega)
 by_cases c : i < b
 ·by_cases c2 : at0 (vl D) i.toNat < at0 (vl D) (i - 1).toNat
  ·refine ⟨?_, ?_⟩ <;> simp (disch := omega) only [ewZ, reduceCtorEq, seval, hSS, Ag, p1.1.w, l97.1, l97.2, tb, c, c2, w2]
   ·omega
   ·exact ⟨rfl, Int.le_refl _, p3, fun _ => c2, fun a _ _ h => h⟩
  ·have y2 : lbI1.ent.pre [D, b, i + 1] := ⟨p1, by show 1 <= i + 1; omega, by show i + 1 <= b; omega, p4⟩
   have ym : muI1 [D, b, i + 1] < muI1 [D, b, i] := by show (b - (i + 1)).toNat < (b - i).toNat; omega
   have ih := hφ [D, b, i + 1] ⟨rfl, hb, w1, trivial⟩ y2 ym
   obtain ⟨u, hu⟩ : ∃ u, φ 0 [D, b, i + 1] = u := ⟨_, rfl⟩
   obtain ⟨t, ht⟩ : ∃ t, IntKind.i64.wrap (φ 1 [D, b, i + 1]) = t := ⟨_, rfl⟩
   have ih : u = D /\ i + 1 <= t /\ t <= b /\ (t < b -> at0 (vl D) t.toNat < at0 (vl D) (t - 1).toNat) /\ ∀ a : Int, 0 <= a -> a < i + 1 -> So (vl D) a.toNat (i + 1).toNat -> So (vl D) a.toNat t.toNat := by rw [<- hu, <- ht]; exact ih
   obtain ⟨ih1, ih2, ih3, ih4, ih5⟩ := ih
   have ih1 := ih1.symm
   subst ih1
   refine ⟨?_, ?_⟩
   ·simp (disch := omega) only [ewZ, reduceCtorEq, seval, hSS, Ag, p1.1.w, l97.1, l97.2, tb, c, c2, w1, w2, hu]
    exact ⟨by omega, y2, ym⟩
   ·simp (disch := omega) only [ewZ, reduceCtorEq, seval, hSS, Ag, p1.1.w, l97.1, l97.2, tb, c, c2, w1, w2, hu, ht]
    refine ⟨rfl, by show i <= t; omega, ih3, ih4, fun a a1 (a2 : a < i) (a3 : So (vl D) a.toNat i.toNat) => ih5 a a1 (by omega) ?_⟩
    have : So (vl D) a.toNat (i.toNat + 1) := EL (C8 a3) (Nat.le_refl _) (Or.inr (by rw [show i.toNat - 1 = (i - 1).toNat by omega]; omega))
    rwa [show (i + 1).toNat = i.toNat + 1 by omega]
 ·refine ⟨?_, ?_⟩ <;> simp (disch := omega) only [ewZ, reduceCtorEq, seval, hSS, c]
  ·exact ⟨rfl, Int.le_refl _, p3, fun h => absurd h c, fun a _ _ h => h⟩
theorem okI2 : Ae Tryd.prog G0 96 pI2 leI2 /\ PostOK leI2.ent Qf := by
 refine Ck.loopJ mixed muI2 false ⟨_, _, _, Tryd.func96, rfl, rfl⟩ 9196 rfl rfl ?_
 go_invoke
 refine ⟨_, _, _, _, rfl, by kernel_rfl, ?_⟩
 intro D j hj hp φ hφ l hS hF ρ hρe hd
 have F97 := hF 97 e97 rfl rfl
 simp only [eqL, Nat.reduceAdd] at hρe
 have hSS := Jj (Jj F97 hS) (Jj hρe hj)
 obtain ⟨p1, a0, k0, p2, p3, p4, p5, p6, p7⟩ := hp
 replace p1 : LN D := p1
 replace p6 : Lb (vl D) a0.toNat (k0 + 1).toNat := p6
 replace p7 : Ins (vl D) a0.toNat k0.toNat j.toNat := p7
 have p0 := p1.2
 simp only [ewY, seval] at p3 p4 p5
 have w2 : IntKind.i64.wrap (j - 1) = j - 1 := i64w (by omega) (by omega)
 by_cases c : j >= 1
 ·by_cases c2 : at0 (vl D) j.toNat < at0 (vl D) (j - 1).toNat
  ·have e1 : (j - 1).toNat = j.toNat - 1 := by omega
   have gt : ∀ a k : Int, 0 <= a -> a <= j -> j <= k -> Lb (vl D) a.toNat (k + 1).toNat -> a < j := fun a k a1 a2 a3 a4 => by
    rcases (show a < j \/ a = j by omega) with h | h
    ·exact h
    ·have := a4 (by omega) j.toNat (by omega) (by omega)
     rw [h, <- e1] at this
     omega
   have y1 : ∀ a k : Int, 0 <= a -> a <= j -> j <= k -> k < ((dc D).length : Int) -> Lb (vl D) a.toNat (k + 1).toNat -> Ins (vl D) a.toNat k.toNat j.toNat -> Ins (vl (swc D j.toNat (j - 1).toNat)) a.toNat k.toNat (j - 1).toNat /\ Lb (vl (swc D j.toNat (j - 1).toNat)) a.toNat (k + 1).toNat /\ St D (swc D j.toNat (j - 1).toNat) a (k + 1) /\ a <= j - 1 := fun a k a1 a2 a3 a4 a5 a6 => by
    have g := gt a k a1 a2 a3 a5
    have x := Lm a6 (by omega) (by omega) (by rw [Au]; omega) (by rw [<- e1]; omega)
    have s : St D (swc D j.toNat (j - 1).toNat) a (k + 1) := St.swc p1.1 a1 (by omega) (by omega) (by omega)
    refine ⟨?_, a5.sg s.2 (by rw [Au]; omega), s, by omega⟩
    rw [CA, e1]; exact x.1
   have z := y1 a0 k0 p2 p3 p4 p5 p6 p7
   have lE := AX D j.toNat (j - 1).toNat
   obtain ⟨E, hE⟩ : ∃ E, swc D j.toNat (j - 1).toNat = E := ⟨_, rfl⟩
   simp only [hE] at z y1 lE
   have y2 : lbI2.ent.pre [E, j - 1] := ⟨z.2.2.1.ln p1, a0, k0, p2, z.2.2.2, by show j - 1 <= k0; omega, by show k0 < ((dc E).length : Int); omega, z.2.1, z.1⟩
   have ym : muI2 [E, j - 1] < muI2 [D, j] := by show (j - 1).toNat < j.toNat; omega
   have ih := hφ [E, j - 1] ⟨rfl, w2, trivial⟩ y2 ym
   obtain ⟨u, hu⟩ : ∃ u, φ 0 [E, j - 1] = u := ⟨_, rfl⟩
   have ih : ∀ a k : Int, 0 <= a -> a <= j - 1 -> j - 1 <= k -> k < ((dc E).length : Int) -> Lb (vl E) a.toNat (k + 1).toNat -> Ins (vl E) a.toNat k.toNat (j - 1).toNat -> St E u a (k + 1) /\ So (vl u) a.toNat (k + 1).toNat := by rw [<- hu]; exact ih
   have lu := (ih a0 k0 p2 z.2.2.2 (by omega) (by omega) z.2.1 z.1).1.len
   refine ⟨?_, ?_⟩
   ·simp (disch := omega) only [ewZ, reduceCtorEq, seval, hSS, Ag, p1.1.w, l97.1, l97.2, tb, As, c, c2, w2, hE, hu, lu, lE]
    exact ⟨by omega, y2, ym⟩
   ·simp (disch := omega) only [ewZ, reduceCtorEq, seval, hSS, Ag, p1.1.w, l97.1, l97.2, tb, As, c, c2, w2, hE, hu]
    intro a k a1 (a2 : a <= j) (a3 : j <= k) (a4 : k < ((dc D).length : Int)) (a5 : Lb (vl D) a.toNat (k + 1).toNat) (a6 : Ins (vl D) a.toNat k.toNat j.toNat)
    have x := y1 a k a1 a2 a3 a4 a5 a6
    have y := ih a k a1 x.2.2.2 (by omega) (by omega) x.2.1 x.1
    exact ⟨x.2.2.1.trans y.1, y.2⟩
  ·refine ⟨?_, ?_⟩ <;> simp (disch := omega) only [ewZ, reduceCtorEq, seval, hSS, Ag, p1.1.w, l97.1, l97.2, tb, As, c, c2, w2]
   ·omega
   ·intro a k a1 (a2 : a <= j) (a3 : j <= k) (a4 : k < ((dc D).length : Int)) (a5 : Lb (vl D) a.toNat (k + 1).toNat) (a6 : Ins (vl D) a.toNat k.toNat j.toNat)
    have := EL a6 (by omega) (Or.inr (by rw [show j.toNat - 1 = (j - 1).toNat by omega]; omega))
    exact ⟨St.refl p1.1 _ _, by show So (vl D) a.toNat (k + 1).toNat; rwa [show (k + 1).toNat = k.toNat + 1 by omega]⟩
 ·refine ⟨?_, ?_⟩ <;> simp (disch := omega) only [ewZ, reduceCtorEq, seval, hSS, c]
  ·intro a k a1 (a2 : a <= j) (a3 : j <= k) (a4 : k < ((dc D).length : Int)) (a5 : Lb (vl D) a.toNat (k + 1).toNat) (a6 : Ins (vl D) a.toNat k.toNat j.toNat)
   have := EL a6 (by omega) (Or.inl (by omega))
   exact ⟨St.refl p1.1 _ _, by show So (vl D) a.toNat (k + 1).toNat; rwa [show (k + 1).toNat = k.toNat + 1 by omega]⟩
theorem okI3 : Ae Tryd.prog G0 96 pI3 leI3 /\ PostOK leI3.ent Qg := by
 refine Ck.loopJ mixed muI1 false ⟨_, _, _, Tryd.func96, rfl, rfl⟩ 9296 rfl rfl ?_
 go_invoke
 refine ⟨_, _, _, _, rfl, by kernel_rfl, ?_⟩
 intro D b hb j hj hp φ hφ l hS hF ρ hρe hd
 have F97 := hF 97 e97 rfl rfl
 simp only [eqL, Nat.reduceAdd] at hρe
 have hSS := Jj (Jj F97 hS) (Jj hρe (Jj hb hj))
 obtain ⟨p1, p2, p3, p4⟩ := hp
 replace p1 : LN D := p1
 have p0 := p1.2
 simp only [ewY, seval] at p2 p3 p4
 have w1 : IntKind.i64.wrap (j + 1) = j + 1 := i64w (by omega) (by omega)
 have w2 : IntKind.i64.wrap (j - 1) = j - 1 := i64w (by omega) (by omega)
 by_cases c : j < b
 ·by_cases c2 : at0 (vl D) j.toNat < at0 (vl D) (j - 1).toNat
  ·have s : St D (swc D j.toNat (j - 1).toNat) (j - 1) b := St.swc p1.1 (by omega) (by omega) (by omega) (by omega)
   have lE := AX D j.toNat (j - 1).toNat
   obtain ⟨E, hE⟩ : ∃ E, swc D j.toNat (j - 1).toNat = E := ⟨_, rfl⟩
   rw [hE] at s lE
   have y2 : lbI3.ent.pre [E, b, j + 1] := ⟨s.ln p1, by show 1 <= j + 1; omega, by show j + 1 <= b; omega, by show b <= ((dc E).length : Int); omega⟩
   have ym : muI1 [E, b, j + 1] < muI1 [D, b, j] := by show (b - (j + 1)).toNat < (b - j).toNat; omega
   have ih := hφ [E, b, j + 1] ⟨rfl, hb, w1, trivial⟩ y2 ym
   obtain ⟨u, hu⟩ : ∃ u, φ 0 [E, b, j + 1] = u := ⟨_, rfl⟩
   have ih : St E u (j + 1 - 1) b := by rw [<- hu]; exact ih
   have lu := ih.len
   refine ⟨?_, ?_⟩
   ·simp (disch := omega) only [ewZ, reduceCtorEq, seval, hSS, Ag, p1.1.w, l97.1, l97.2, tb, As, c, c2, w1, w2, hE, hu, lu, lE]
    exact ⟨by omega, y2, ym⟩
   ·simp (disch := omega) only [ewZ, reduceCtorEq, seval, hSS, Ag, p1.1.w, l97.1, l97.2, tb, As, c, c2, w1, w2, hE, hu]
    exact s.trans (ih.mono (by omega) (Int.le_refl _))
  ·refine ⟨?_, ?_⟩ <;> simp (disch := omega) only [ewZ, reduceCtorEq, seval, hSS, Ag, p1.1.w, l97.1, l97.2, tb, As, c, c2, w2]
   ·omega
   ·exact St.refl p1.1 _ _
 ·refine ⟨?_, ?_⟩ <;> simp (disch := omega) only [ewZ, reduceCtorEq, seval, hSS, c]
  ·exact St.refl p1.1 _ _
theorem bit1 (z : Int) : (if i2b (K.b.norm z) = true then (1 : Int) else 0) = K.b.norm z := by
 by_cases h : z = 0
 ·subst h; rfl
 ·simp [K.norm, i2b, b2i, h]
theorem cOok : cO.OK Tryd.prog G0 := Ctx.OK.addL (c := ⟨[], [(96, pI2, leI2), (96, pI3, leI3)]⟩) (Ctx.OK.addL (c := ⟨[], [(96, pI3, leI3)]⟩) (Ctx.OK.addL (c := ⟨[], []⟩) Ctx.OK.nil okI3.1 rfl) okI2.1 rfl) okI1.1 rfl
theorem okO : Ae Tryd.prog G0 96 pO leO /\ PostOK leO.ent NY := by
 refine cOok.loopJ mixed muO false ⟨_, _, _, Tryd.func96, rfl, rfl⟩ 9396 rfl rfl ?_
 go_invoke
 refine ⟨_, _, _, _, rfl, by kernel_rfl, ?_⟩
 intro D a ha b hb t ht i hi j hj hp φ hφ l hS hF ρ hρe hd
 have F9096 := hF 9096 leI1.ent rfl rfl
 have F9196 := hF 9196 leI2.ent rfl rfl
 have F9296 := hF 9296 leI3.ent rfl rfl
 simp only [eqL, Nat.reduceAdd] at hρe
 have hSS := Jj (Jj (Jj F9096 F9196) (Jj F9296 (Jj hS hρe))) (Jj (Jj ha hb) (Jj ht (Jj hi hj)))
 obtain ⟨⟨p1, p2, p3, p4⟩, p5, p6, p7, p8, p9⟩ := hp
 replace p1 : LN D := p1
 replace p5 : Lb (vl D) a.toNat b.toNat := p5
 replace p8 : So (vl D) a.toNat i.toNat := p8
 have p0 := p1.2
 simp only [ewY, seval] at p2 p3 p4 p6 p7 p9
 by_cases c : j < 5
 ·have y0 : lbI1.ent.pre [D, b, i] := ⟨p1, by show 1 <= i; omega, p7, p4⟩
  have z := okI1.2 [D, b, i] ⟨rfl, hb, hi, trivial⟩ y0
  obtain ⟨u1, hu1⟩ : ∃ u, leI1.ent.fn 0 [D, b, i] = u := ⟨_, rfl⟩
  obtain ⟨r, hr⟩ : ∃ t, IntKind.i64.wrap (leI1.ent.fn 1 [D, b, i]) = t := ⟨_, rfl⟩
  have z : u1 = D /\ i <= r /\ r <= b /\ (r < b -> at0 (vl D) r.toNat < at0 (vl D) (r - 1).toNat) /\ ∀ a : Int, 0 <= a -> a < i -> So (vl D) a.toNat i.toNat -> So (vl D) a.toNat r.toNat := by rw [<- hu1, <- hr]; exact z
  obtain ⟨z1, z2, z3, z4, z5⟩ := z
  have z1 := z1.symm
  subst z1
  have so := z5 a p2 p6 p8
  have w0 : IntKind.i64.wrap r = r := i64w (by omega) (by omega)
  have w1 : IntKind.i64.wrap (b - a) = b - a := i64w (by omega) (by omega)
  by_cases c2 : r = b
  ·refine ⟨?_, ?_⟩ <;> simp (disch := omega) only [ewZ, reduceCtorEq, seval, hSS, c, hu1, hr, c2]
   ·exact y0
   ·rw [c2] at so
    exact ⟨St.refl p1.1 _ _, fun _ _ => so⟩
  ·by_cases c3 : b - a < 50
   ·refine ⟨?_, ?_⟩ <;> simp (disch := omega) only [ewZ, reduceCtorEq, seval, hSS, c, hu1, hr, c2, c3, w1]
    ·exact y0
    ·exact ⟨St.refl p1.1 _ _, fun _ h => absurd (show b2i (r == b) = 0 by rw [beq_eq_false_iff_ne.2 c2]; rfl) h⟩
   ·have w2 : IntKind.i64.wrap (r - 1) = r - 1 := i64w (by omega) (by omega)
    have w3 : IntKind.i64.wrap (r - a) = r - a := i64w (by omega) (by omega)
    have w4 : IntKind.i64.wrap (b - r) = b - r := i64w (by omega) (by omega)
    have w5 : IntKind.i64.wrap (r + 1) = r + 1 := i64w (by omega) (by omega)
    have w6 : IntKind.i64.wrap (j + 1) = j + 1 := i64w (by omega) (by omega)
    have s1 : St D (swc D r.toNat (r - 1).toNat) (r - 1) (r + 1) := St.swc p1.1 (by omega) (by omega) (by omega) (by omega)
    have lE := AX D r.toNat (r - 1).toNat
    obtain ⟨E, hE⟩ : ∃ E, swc D r.toNat (r - 1).toNat = E := ⟨_, rfl⟩
    rw [hE] at s1 lE
    have n1 := s1.ln p1
    have s2 : St D E a b := s1.mono (by omega) (by omega)
    have b1 := p5.sg s2.2 (by rw [Au]; omega)
    have so1 : So (vl E) a.toNat (r - 1).toNat := So.out (fun x y h1 h2 h3 => so x y h1 h2 (by omega)) s1.2 (Or.inl (Nat.le_refl _))
    have nxt : ∀ W, St D W a b -> So (vl W) a.toNat r.toNat -> lbO.ent.pre [W, a, b, t, r, j + 1] /\ muO [W, a, b, t, r, j + 1] < muO [D, a, b, t, i, j] /\ (dc (φ 0 [W, a, b, t, r, j + 1])).length = (dc D).length /\ NY [D, a, b, t, i, j] [φ 0 [W, a, b, t, r, j + 1], K.b.norm (φ 1 [W, a, b, t, r, j + 1]), K.b.norm (φ 2 [W, a, b, t, r, j + 1])] := fun W hW hS => by
     have y2 : lbO.ent.pre [W, a, b, t, r, j + 1] := ⟨⟨hW.ln p1, p2, p3, by show b <= ((dc W).length : Int); rw [hW.len]; exact p4⟩, p5.sg hW.2 (by rw [Au]; omega), by show a < r; omega, z3, hS, by show 0 <= j + 1; omega⟩
     have ym : muO [W, a, b, t, r, j + 1] < muO [D, a, b, t, i, j] := by show (5 - (j + 1)).toNat < (5 - j).toNat; omega
     have ih := hφ [W, a, b, t, r, j + 1] ⟨rfl, ha, hb, ht, w0, w6, trivial⟩ y2 ym
     exact ⟨y2, ym, (St.len ih.1).trans hW.len, hW.trans ih.1, ih.2⟩
    by_cases c4 : r - a >= 2
    ·have g2 : lbI2.ent.pre [E, r - 1] := ⟨n1, a, r - 1, p2, by show a <= r - 1; omega, Int.le_refl _, by show r - 1 < ((dc E).length : Int); omega, fun h k h1 h2 => b1 h k h1 (by omega), C8 so1⟩
     have g := okI2.2 [E, r - 1] ⟨rfl, w2, trivial⟩ g2
     obtain ⟨V, hV⟩ : ∃ u, leI2.ent.fn 0 [E, r - 1] = u := ⟨_, rfl⟩
     have g : ∀ a k : Int, 0 <= a -> a <= r - 1 -> r - 1 <= k -> k < ((dc E).length : Int) -> Lb (vl E) a.toNat (k + 1).toNat -> Ins (vl E) a.toNat k.toNat (r - 1).toNat -> St E V a (k + 1) /\ So (vl V) a.toNat (k + 1).toNat := by rw [<- hV]; exact g
     have g := g a (r - 1) p2 (by omega) (Int.le_refl _) (by omega) (fun h k h1 h2 => b1 h k h1 (by omega)) (C8 so1)
     rw [show r - 1 + 1 = r by omega] at g
     have lV := g.1.len
     have nV := g.1.ln n1
     have sV : St D V a b := s2.trans (g.1.mono (Int.le_refl _) (by omega))
     by_cases c5 : b - r >= 2
     ·have k2 : lbI3.ent.pre [V, b, r + 1] := ⟨nV, by show 1 <= r + 1; omega, by show r + 1 <= b; omega, by show b <= ((dc V).length : Int); omega⟩
      have k := okI3.2 [V, b, r + 1] ⟨rfl, hb, w5, trivial⟩ k2
      obtain ⟨W, hW⟩ : ∃ u, leI3.ent.fn 0 [V, b, r + 1] = u := ⟨_, rfl⟩
      have k : St V W (r + 1 - 1) b := by rw [<- hW]; exact k
      have lW := k.len
      obtain ⟨x1, x2, x3, x4⟩ := nxt W (sV.trans (k.mono (by omega) (Int.le_refl _))) (g.2.out k.2 (Or.inl (by omega)))
      refine ⟨?_, ?_⟩
      ·simp (disch := omega) only [ewZ, reduceCtorEq, seval, hSS, Ag, p1.1.w, As, c, hu1, hr, c2, c3, w1, w2, w3, w4, w5, w6, hE, lE, c4, c5, hV, hW, lV, lW, x3]
       exact ⟨⟨y0, by omega, g2, k2⟩, x1, x2⟩
      ·simp (disch := omega) only [ewZ, reduceCtorEq, seval, hSS, Ag, p1.1.w, As, c, hu1, hr, c2, c3, w1, w2, w3, w4, w5, w6, hE, lE, c4, c5, hV, hW]
       simp only [ite_self, bit1]
       exact x4
     ·obtain ⟨x1, x2, x3, x4⟩ := nxt V sV g.2
      refine ⟨?_, ?_⟩
      ·simp (disch := omega) only [ewZ, reduceCtorEq, seval, hSS, Ag, p1.1.w, As, c, hu1, hr, c2, c3, w1, w2, w3, w4, w5, w6, hE, lE, c4, c5, hV, lV, x3]
       exact ⟨⟨y0, by omega, g2⟩, x1, x2⟩
      ·simp (disch := omega) only [ewZ, reduceCtorEq, seval, hSS, Ag, p1.1.w, As, c, hu1, hr, c2, c3, w1, w2, w3, w4, w5, w6, hE, lE, c4, c5, hV]
       simp only [ite_self, bit1]
       exact x4
    ·by_cases c5 : b - r >= 2
     ·have k2 : lbI3.ent.pre [E, b, r + 1] := ⟨n1, by show 1 <= r + 1; omega, by show r + 1 <= b; omega, by show b <= ((dc E).length : Int); omega⟩
      have k := okI3.2 [E, b, r + 1] ⟨rfl, hb, w5, trivial⟩ k2
      obtain ⟨W, hW⟩ : ∃ u, leI3.ent.fn 0 [E, b, r + 1] = u := ⟨_, rfl⟩
      have k : St E W (r + 1 - 1) b := by rw [<- hW]; exact k
      have lW := k.len
      obtain ⟨x1, x2, x3, x4⟩ := nxt W (s2.trans (k.mono (by omega) (Int.le_refl _))) (So.small (by omega))
      refine ⟨?_, ?_⟩
      ·simp (disch := omega) only [ewZ, reduceCtorEq, seval, hSS, Ag, p1.1.w, As, c, hu1, hr, c2, c3, w1, w2, w3, w4, w5, w6, hE, lE, c4, c5, hW, lW, x3]
       exact ⟨⟨y0, by omega, k2⟩, x1, x2⟩
      ·simp (disch := omega) only [ewZ, reduceCtorEq, seval, hSS, Ag, p1.1.w, As, c, hu1, hr, c2, c3, w1, w2, w3, w4, w5, w6, hE, lE, c4, c5, hW]
       simp only [ite_self, bit1]
       exact x4
     ·obtain ⟨x1, x2, x3, x4⟩ := nxt E s2 (So.small (by omega))
      refine ⟨?_, ?_⟩
      ·simp (disch := omega) only [ewZ, reduceCtorEq, seval, hSS, Ag, p1.1.w, As, c, hu1, hr, c2, c3, w1, w2, w3, w4, w5, w6, hE, lE, c4, c5, x3]
       exact ⟨⟨y0, by omega⟩, x1, x2⟩
      ·simp (disch := omega) only [ewZ, reduceCtorEq, seval, hSS, Ag, p1.1.w, As, c, hu1, hr, c2, c3, w1, w2, w3, w4, w5, w6, hE, lE, c4, c5]
       simp only [ite_self, bit1]
       exact x4
 ·refine ⟨?_, ?_⟩ <;> simp (disch := omega) only [ewZ, reduceCtorEq, seval, hSS, c]
  ·exact ⟨St.refl p1.1 _ _, fun h => by cases h⟩
theorem bit2 {x y : Int} (h : b2i (!i2b (K.b.norm x) && i2b (K.b.norm y)) ≠ 0) : K.b.norm x = 0 /\ K.b.norm y ≠ 0 := by
 refine ⟨Classical.byContradiction fun h1 => h ?_, fun h1 => h ?_⟩
 ·show (bif !!(K.b.norm x == 0) && !(K.b.norm y == 0) then (1 : Int) else 0) = 0
  rw [beq_eq_false_iff_ne.2 h1]; rfl
 ·show (bif !!(K.b.norm x == 0) && !(K.b.norm y == 0) then (1 : Int) else 0) = 0
  rw [h1]; cases (K.b.norm x == 0) <;> rfl
theorem cO6ok : cO6.OK Tryd.prog G0 := Ctx.OK.addL (c := ⟨[], []⟩) Ctx.OK.nil okO.1 rfl
theorem ok96 : EntryOK Tryd.prog G0 e96 /\ PostOK e96 Qh := by
 refine cO6ok.entryJ mixed false ?_
 go_invoke
 refine ⟨_, _, _, _, rfl, by kernel_rfl, ?_⟩
 intro D a ha b hb hp l hF ρ hρe hd
 have F9396 := hF 9396 leO.ent rfl rfl
 simp only [eqL, Nat.reduceAdd] at hρe
 have hSS := Jj (Jj F9396 hρe) (Jj ha hb)
 obtain ⟨⟨p1, p2, p3, p4⟩, p5, p6⟩ := hp
 replace p1 : LN D := p1
 have p0 := p1.2
 simp only [ewY, seval] at p2 p3 p4 p5
 have w1 : IntKind.i64.wrap (a + 1) = a + 1 := i64w (by omega) (by omega)
 have y0 : lbO.ent.pre [D, a, b, 0, a + 1, 0] := ⟨⟨p1, p2, p3, p4⟩, p6, by show a < a + 1; omega, by show a + 1 <= b; omega, So.small (by show (a + 1).toNat <= a.toNat + 1; omega), Int.le_refl _⟩
 have z := okO.2 [D, a, b, 0, a + 1, 0] ⟨rfl, ha, hb, rfl, w1, rfl, trivial⟩ y0
 have lz := z.1.len
 obtain ⟨w, hw⟩ : ∃ w, leO.ent.fn 0 [D, a, b, 0, a + 1, 0] = w := ⟨_, rfl⟩
 obtain ⟨x1, h1⟩ : ∃ w, leO.ent.fn 1 [D, a, b, 0, a + 1, 0] = w := ⟨_, rfl⟩
 obtain ⟨x2, h2⟩ : ∃ w, leO.ent.fn 2 [D, a, b, 0, a + 1, 0] = w := ⟨_, rfl⟩
 have z : St D w a b /\ (K.b.norm x1 = 0 -> K.b.norm x2 ≠ 0 -> So (vl w) a.toNat b.toNat) := by rw [<- hw, <- h1, <- h2]; exact z
 have zl := z.1.len
 refine ⟨?_, ?_⟩
 ·simp (disch := omega) only [ewZ, reduceCtorEq, seval, hSS, w1, hw, zl]
  exact y0
 ·simp (disch := omega) only [ewZ, reduceCtorEq, seval, hSS, w1, hw, h1, h2]
  exact ⟨z.1, fun h => z.2 (bit2 h).1 (bit2 h).2⟩
end
end Go.Proofs.YtgpflpbldeflhaaDoor.Ew.Sr
set_option maxHeartbeats 8000000
namespace Go.Proofs.YtgpflpbldeflhaaDoor.Ew.Sr
open Go Go.RowKit
noncomputable section
def sw3 : Sh := .obj 3 [i64]
def swO (j : Nat) : Ob := { j := j, ty := 3, cs := [i64] }
def isP (D : Int) (i : Int) : Prop := 0 <= i /\ i < ((dc D).length : Int)
def pre108 (xs : List Int) : Prop := LN (env xs 0) /\ isP (env xs 0) (env xs 1) /\ isP (env xs 0) (env xs 2)
def MK (xs ys : List Int) : Prop := env ys 0 = env xs 0 /\ ((env ys 2 = env xs 1 /\ env ys 3 = env xs 2) \/ (env ys 2 = env xs 2 /\ env ys 3 = env xs 1))
def b108 : Ent := ⟨108, 108, [Dt, i64, i64, sw3], [dO, swO 1], [], .tup [i64, i64], z0, pre108⟩
def e108 : Ent := b108.fw (fnG Tryd.prog G0 b108 MK)
def c108 : Ctx := ⟨[e108], []⟩
def pre106 (xs : List Int) : Prop := LN (env xs 0) /\ isP (env xs 0) (env xs 1) /\ isP (env xs 0) (env xs 2) /\ isP (env xs 0) (env xs 3)
def ML (xs ys : List Int) : Prop := env ys 0 = env xs 0 /\ (env ys 2 = env xs 1 \/ env ys 2 = env xs 2 \/ env ys 2 = env xs 3)
def b106 : Ent := ⟨106, 106, [Dt, i64, i64, i64, sw3], [dO, swO 1], [], i64, z0, pre106⟩
def e106 : Ent := b106.fw (fnG Tryd.prog G0 b106 ML)
def c106 : Ctx := ⟨[e106], []⟩
def pre105 (xs : List Int) : Prop := LN (env xs 0) /\ 1 <= env xs 1 /\ env xs 1 + 1 < ((dc (env xs 0)).length : Int)
def MM (xs ys : List Int) : Prop := env ys 0 = env xs 0 /\ env xs 1 - 1 <= env ys 2 /\ env ys 2 <= env xs 1 + 1
def b105 : Ent := ⟨105, 105, [Dt, i64, sw3], [dO, swO 1], [], i64, z0, pre105⟩
def e105 : Ent := b105.fw (fnG Tryd.prog G0 b105 MM)
def c94 : Ctx := ⟨[e105, e106], []⟩
def pre94 (xs : List Int) : Prop := In3 (env xs 0) (env xs 1) (env xs 2) /\ env xs 1 + 12 < env xs 2
def Qi (xs ys : List Int) : Prop := env ys 0 = env xs 0 /\ env xs 1 <= env ys 1 /\ env ys 1 < env xs 2
def b94 : Ent := ⟨94, 94, [Dt, i64, i64], [dO], [], .tup [i64, i64], z0, pre94⟩
def e94 : Ent := b94.fw (fnG Tryd.prog G0 b94 Qi)
def Sj (xs ys : List Int) : Prop := True
theorem Sk : EntryOK Tryd.prog G0 e108 /\ PostOK e108 MK := by
 refine Ck.entryJ mixed false ?_
 go_invoke
 refine ⟨_, _, _, _, rfl, by kernel_rfl, ?_⟩
 intro D a ha b hb s hs hp l hF ρ hρe hd
 have F97 := hF 97 e97 rfl rfl
 simp only [eqL, Nat.reduceAdd] at hρe
 have hSS := Jj (Jj F97 hρe) (Jj ha (Jj hb hs))
 obtain ⟨p1, p2, p3⟩ := hp
 replace p1 : LN D := p1
 replace p2 : isP D a := p2
 replace p3 : isP D b := p3
 have p0 := p1.2
 have p4 := p2
 have p5 := p3
 obtain ⟨q1, q2⟩ := p4
 obtain ⟨q3, q4⟩ := p5
 by_cases c : at0 (vl D) b.toNat < at0 (vl D) a.toNat
 ·refine ⟨?_, ?_⟩ <;> simp (disch := omega) only [ewZ, reduceCtorEq, seval, hSS, Ag, p1.1.w, l97.1, l97.2, tb, c]
  ·omega
  ·exact ⟨rfl, Or.inr ⟨rfl, rfl⟩⟩
 ·refine ⟨?_, ?_⟩ <;> simp (disch := omega) only [ewZ, reduceCtorEq, seval, hSS, Ag, p1.1.w, l97.1, l97.2, tb, c]
  ·omega
  ·exact ⟨rfl, Or.inl ⟨rfl, rfl⟩⟩
theorem isP.w {D i : Int} (h : isP D i) (hn : LN D) : IntKind.i64.wrap i = i := by
 have := h.1; have := h.2; have := hn.2
 exact i64w (by omega) (by omega)
theorem ww (z : Int) : IntKind.i64.wrap (IntKind.i64.wrap z) = IntKind.i64.wrap z := K.norm_norm kJ z
theorem f108 {D a b s : Int} (h : LN D) (ha : isP D a) (hb : isP D b) (hs : IntKind.i64.wrap s = s) :
 ∃ s' x y, e108.fn 0 [D, a, b, s] = D /\ IntKind.i64.wrap (e108.fn 1 [D, a, b, s]) = s' /\ IntKind.i64.wrap (e108.fn 2 [D, a, b, s]) = x /\ IntKind.i64.wrap (e108.fn 3 [D, a, b, s]) = y /\ e108.pre [D, a, b, s] /\ IntKind.i64.wrap s' = s' /\ isP D x /\ isP D y /\ (x = a /\ y = b \/ x = b /\ y = a) := by
 have y0 : e108.pre [D, a, b, s] := ⟨h, ha, hb⟩
 have z := Sk.2 [D, a, b, s] ⟨rfl, ha.w h, hb.w h, hs, trivial⟩ y0
 have z2 : IntKind.i64.wrap (e108.fn 2 [D, a, b, s]) = a /\ IntKind.i64.wrap (e108.fn 3 [D, a, b, s]) = b \/ IntKind.i64.wrap (e108.fn 2 [D, a, b, s]) = b /\ IntKind.i64.wrap (e108.fn 3 [D, a, b, s]) = a := z.2
 refine ⟨_, _, _, z.1, rfl, rfl, rfl, y0, ww _, ?_, ?_, z2⟩
 ·rcases z2 with ⟨e, _⟩ | ⟨e, _⟩
  ·rw [e]; exact ha
  ·rw [e]; exact hb
 ·rcases z2 with ⟨_, e⟩ | ⟨_, e⟩
  ·rw [e]; exact hb
  ·rw [e]; exact ha
theorem T6 : c108.OK Tryd.prog G0 := Ctx.OK.addF (c := ⟨[], []⟩) Ctx.OK.nil Sk.1 rfl
theorem NZ : EntryOK Tryd.prog G0 e106 /\ PostOK e106 ML := by
 refine T6.entryJ mixed false ?_
 go_invoke
 refine ⟨_, _, _, _, rfl, by kernel_rfl, ?_⟩
 intro D a ha b hb c hc s hs hp l hF ρ hρe hd
 have F108 := hF 108 e108 rfl rfl
 simp only [eqL, Nat.reduceAdd] at hρe
 have hSS := Jj (Jj F108 (Jj hρe ha)) (Jj hb (Jj hc hs))
 obtain ⟨p1, p2, p3, p4⟩ := hp
 replace p1 : LN D := p1
 replace p2 : isP D a := p2
 replace p3 : isP D b := p3
 replace p4 : isP D c := p4
 have p0 := p1.2
 obtain ⟨s1, x1, y1, a1, a2, a3, a4, a5, a6, a7, a8, a9⟩ := f108 p1 p2 p3 hs
 obtain ⟨s2, x2, y2, b1, b2, b3, b4, b5, b6, b7, b8, b9⟩ := f108 p1 a8 p4 a6
 obtain ⟨s3, x3, y3, c1, c2, c3, c4, c5, c6, c7, c8, c9⟩ := f108 p1 a7 b7 b6
 refine ⟨?_, ?_⟩ <;> simp (disch := omega) only [ewZ, reduceCtorEq, seval, hSS, a1, a2, a3, a4, b1, b2, b3, b4, c1, c2, c3, c4]
 ·exact ⟨a5, b5, c5⟩
 ·exact ⟨rfl, by show y3 = a \/ y3 = b \/ y3 = c; omega⟩
theorem f106 {D a b c s : Int} (h : LN D) (ha : isP D a) (hb : isP D b) (hc : isP D c) (hs : IntKind.i64.wrap s = s) :
 ∃ s' y, e106.fn 0 [D, a, b, c, s] = D /\ IntKind.i64.wrap (e106.fn 1 [D, a, b, c, s]) = s' /\ IntKind.i64.wrap (e106.fn 2 [D, a, b, c, s]) = y /\ e106.pre [D, a, b, c, s] /\ IntKind.i64.wrap s' = s' /\ (y = a \/ y = b \/ y = c) := by
 have y0 : e106.pre [D, a, b, c, s] := ⟨h, ha, hb, hc⟩
 have z := NZ.2 [D, a, b, c, s] ⟨rfl, ha.w h, hb.w h, hc.w h, hs, trivial⟩ y0
 exact ⟨_, _, z.1, rfl, rfl, y0, ww _, z.2⟩
theorem T7 : c106.OK Tryd.prog G0 := Ctx.OK.addF (c := ⟨[], []⟩) Ctx.OK.nil NZ.1 rfl
theorem Sl : EntryOK Tryd.prog G0 e105 /\ PostOK e105 MM := by
 refine T7.entryJ mixed false ?_
 go_invoke
 refine ⟨_, _, _, _, rfl, by kernel_rfl, ?_⟩
 intro D a ha s hs hp l hF ρ hρe hd
 have F106 := hF 106 e106 rfl rfl
 simp only [eqL, Nat.reduceAdd] at hρe
 have hSS := Jj (Jj F106 hρe) (Jj ha hs)
 obtain ⟨p1, p2, p3⟩ := hp
 replace p1 : LN D := p1
 have p0 := p1.2
 simp only [ewY, seval] at p2 p3
 have w1 : IntKind.i64.wrap (a - 1) = a - 1 := i64w (by omega) (by omega)
 have w2 : IntKind.i64.wrap (a + 1) = a + 1 := i64w (by omega) (by omega)
 obtain ⟨s1, x1, a1, a2, a3, a4, a5, a6⟩ := f106 (a := a - 1) (b := a) (c := a + 1) p1 ⟨by omega, by omega⟩ ⟨by omega, by omega⟩ ⟨by omega, by omega⟩ hs
 refine ⟨?_, ?_⟩ <;> simp (disch := omega) only [ewZ, reduceCtorEq, seval, hSS, w1, w2, a1, a2, a3]
 ·exact a4
 ·exact ⟨rfl, by show a - 1 <= x1; omega, by show x1 <= a + 1; omega⟩
theorem f105 {D a s : Int} (h : LN D) (ha : 1 <= a) (hb : a + 1 < ((dc D).length : Int)) (hs : IntKind.i64.wrap s = s) :
 ∃ s' y, e105.fn 0 [D, a, s] = D /\ IntKind.i64.wrap (e105.fn 1 [D, a, s]) = s' /\ IntKind.i64.wrap (e105.fn 2 [D, a, s]) = y /\ e105.pre [D, a, s] /\ IntKind.i64.wrap s' = s' /\ a - 1 <= y /\ y <= a + 1 := by
 have y0 : e105.pre [D, a, s] := ⟨h, ha, hb⟩
 have hn := h.2
 have z := Sl.2 [D, a, s] ⟨rfl, i64w (by omega) (by omega), hs, trivial⟩ y0
 exact ⟨_, _, z.1, rfl, rfl, y0, ww _, z.2.1, z.2.2⟩
theorem c94ok : c94.OK Tryd.prog G0 := Ctx.OK.addF (c := ⟨[e106], []⟩) (Ctx.OK.addF (c := ⟨[], []⟩) Ctx.OK.nil NZ.1 rfl) Sl.1 rfl
theorem ok94 : EntryOK Tryd.prog G0 e94 /\ PostOK e94 Qi := by
 refine c94ok.entryJ mixed false ?_
 go_invoke
 refine ⟨_, _, _, _, rfl, by kernel_rfl, ?_⟩
 intro D a ha b hb hp l hF ρ hρe hd
 have F105 := hF 105 e105 rfl rfl
 have F106 := hF 106 e106 rfl rfl
 simp only [eqL, Nat.reduceAdd] at hρe
 have hSS := Jj (Jj F105 F106) (Jj hρe (Jj ha hb))
 obtain ⟨⟨p1, p2, p3, p4⟩, p5⟩ := hp
 replace p1 : LN D := p1
 have p0 := p1.2
 simp only [ewY, seval] at p2 p3 p4 p5
 have w1 : IntKind.i64.wrap (b - a) = b - a := i64w (by omega) (by omega)
 have c1 : b - a >= 8 := by omega
 obtain ⟨q, hq⟩ : ∃ q, (b - a) / 4 = q := ⟨_, rfl⟩
 have wq : (b - a).tdiv 4 = q := by rw [Int.tdiv_eq_ediv_of_nonneg (by omega)]; exact hq
 have v0 : IntKind.i64.wrap q = q := i64w (by omega) (by omega)
 have v1 : IntKind.i64.wrap (q * 1) = q * 1 := i64w (by omega) (by omega)
 have v2 : IntKind.i64.wrap (q * 2) = q * 2 := i64w (by omega) (by omega)
 have v3 : IntKind.i64.wrap (q * 3) = q * 3 := i64w (by omega) (by omega)
 have u1 : IntKind.i64.wrap (a + q * 1) = a + q * 1 := i64w (by omega) (by omega)
 have u2 : IntKind.i64.wrap (a + q * 2) = a + q * 2 := i64w (by omega) (by omega)
 have u3 : IntKind.i64.wrap (a + q * 3) = a + q * 3 := i64w (by omega) (by omega)
 by_cases c2 : b - a >= 50
 ·obtain ⟨s1, x1, a1, a2, a3, a4, a5, a6, a7⟩ := f105 (a := a + q * 1) (s := 0) p1 (by omega) (by omega) rfl
  obtain ⟨s2, x2, b1, b2, b3, b4, b5, b6, b7⟩ := f105 (a := a + q * 2) p1 (by omega) (by omega) a5
  obtain ⟨s3, x3, c1', d2, d3, d4, d5, d6, d7⟩ := f105 (a := a + q * 3) p1 (by omega) (by omega) b5
  obtain ⟨s4, x4, m1, m2, m3, m4, m5, m6⟩ := f106 (a := x1) (b := x2) (c := x3) p1 ⟨by omega, by omega⟩ ⟨by omega, by omega⟩ ⟨by omega, by omega⟩ d5
  refine ⟨?_, ?_⟩ <;> simp (disch := omega) only [ewZ, reduceCtorEq, seval, hSS, w1, c1, c2, wq, v0, v1, v2, v3, u1, u2, u3, a1, a2, a3, b1, b2, b3, c1', d2, d3, m1, m2, m3]
  ·exact ⟨⟨a4, b4, d4⟩, m4⟩
  ·exact ⟨rfl, by show a <= x4; omega, by show x4 < b; omega⟩
 ·obtain ⟨s4, x4, m1, m2, m3, m4, m5, m6⟩ := f106 (a := a + q * 1) (b := a + q * 2) (c := a + q * 3) (s := 0) p1 ⟨by omega, by omega⟩ ⟨by omega, by omega⟩ ⟨by omega, by omega⟩ rfl
  refine ⟨?_, ?_⟩ <;> simp (disch := omega) only [ewZ, reduceCtorEq, seval, hSS, w1, c1, c2, wq, v0, v1, v2, v3, u1, u2, u3, m1, m2, m3]
  ·exact m4
  ·exact ⟨rfl, by show a <= x4; omega, by show x4 < b; omega⟩
end
end Go.Proofs.YtgpflpbldeflhaaDoor.Ew.Sr
namespace Go.Proofs
open Go.Shelf
def Tryd.lenA_ren : Go.Shelf.Ren := ⟨fun | 125 => 90 | 128 => 100 | 129 => 101 | n => n, fun | 46 => 79 | 3 => 3 | 51 => 26 | 53 => 55 | 4 => 4 | 5 => 5 | 9 => 9 | n => n, fun | n => n⟩
theorem Tryd.lenA : Go.Proofs.Lays.n125 Tryd.prog Tryd.lenA_ren := {
 mixed := by kernel_rfl
 f125 := Tryd.func90.trans (congrArg some (by kernel_rfl))
 f128 := Tryd.func100.trans (congrArg some (by kernel_rfl))
 f129 := Tryd.func101.trans (congrArg some (by kernel_rfl))
 t3 := Tryd.underlying3
 a3 := Tryd.isAgg3
 z3 := Tryd.sizeOf3
 v3 := Tryd.zeroValue3
 t4 := Tryd.underlying4
 a4 := Tryd.isAgg4
 z4 := Tryd.sizeOf4
 v4 := Tryd.zeroValue4
 t5 := Tryd.underlying5
 a5 := Tryd.isAgg5
 z5 := Tryd.sizeOf5
 v5 := Tryd.zeroValue5
 t9 := Tryd.underlying9
 a9 := Tryd.isAgg9
 z9 := Tryd.sizeOf9
 v9 := Tryd.zeroValue9
 t46 := Tryd.underlying79
 a46 := Tryd.isAgg79
 z46 := Tryd.sizeOf79
 v46 := Tryd.zeroValue79
 t51 := Tryd.underlying26
 a51 := Tryd.isAgg26
 z51 := Tryd.sizeOf26
 v51 := Tryd.zeroValue26
 t53 := Tryd.underlying55
 a53 := Tryd.isAgg55
 z53 := Tryd.sizeOf55
 v53 := Tryd.zeroValue55 }
end Go.Proofs
set_option maxHeartbeats 8000000
namespace Go.Proofs.YtgpflpbldeflhaaDoor.Ew.Sr
open Go Go.RowKit
noncomputable section
def u64 : Sh := .sc (.i .u64)
def xsh : Sh := .obj 166 [u64]
def xsO (j : Nat) : Ob := { j := j, ty := 166, cs := [u64] }
def Sm : Ent := ⟨104, 104, [xsh], [xsO 0], [], u64, z0, fun _ => True⟩
def e104x : Ent := Sm.fw (fnG Tryd.prog G0 Sm Sj)
def e90 : Ent := ⟨90, 90, [u64], [], [], i64, fun _ xs => ((Lib.bitLen (env xs 0).toNat : Nat) : Int), fun _ => True⟩
def c90 : Ctx := ⟨[e90], []⟩
def pre103 (xs : List Int) : Prop := 1 <= env xs 0 /\ env xs 0 <= 1000000
def MN (xs ys : List Int) : Prop := 1 <= env ys 0 /\ env ys 0 <= 2 * env xs 0
def b103 : Ent := ⟨103, 103, [i64], [], [], u64, z0, pre103⟩
def e103 : Ent := b103.fw (fnG Tryd.prog G0 b103 MN)
def cBp : Ctx := ⟨[e104x], []⟩
def pBp : List Bool := [true,true,false,true,true,true,false]
def preBp (xs : List Int) : Prop := LN (env xs 0) /\ 0 <= env xs 1 /\ 8 <= env xs 2 /\ env xs 1 + env xs 2 <= ((dc (env xs 0)).length : Int) /\ 1 <= env xs 4 /\ env xs 4 <= 2 * env xs 2 /\ env xs 1 <= env xs 5
def Qj (xs ys : List Int) : Prop := St (env xs 0) (env ys 0) (env xs 1) (env xs 1 + env xs 2)
def muBp (xs : List Int) : Nat := (env xs 1 + env xs 2 - env xs 5).toNat
def lbBp : LEnt := ⟨⟨9093, 999999, [Dt, i64, i64, xsh, u64, i64], [dO, xsO 1], [], .tup [], z0, preBp⟩, [0, 1, 6, 7, 8, 9], [], [9, 10] ++ (List.range 39).map (· + 26), [.ex 0], 65, []⟩
def leBp : LEnt := lbBp.fw (fnM Tryd.prog G0 93 pBp lbBp Qj)
def c93 : Ctx := ⟨[e103], [(93, pBp, leBp)]⟩
def Qk (xs ys : List Int) : Prop := St (env xs 0) (env ys 0) (env xs 1) (env xs 2)
def b93 : Ent := ⟨93, 93, [Dt, i64, i64], [dO], [], .tup [], z0, pre91⟩
def e93 : Ent := b93.fw (fnG Tryd.prog G0 b93 Qk)
theorem T8 : EntryOK Tryd.prog G0 e104x /\ PostOK e104x Sj := by
 refine Ctx.OK.nil.entryJ mixed false ?_
 go_invoke
 refine ⟨_, _, _, _, rfl, by kernel_rfl, ?_⟩
 intro r hr hp l hF ρ hρe hd
 simp only [eqL, Nat.reduceAdd] at hρe
 have hSS := Jj hρe hr
 refine ⟨?_, trivial⟩
 simp (disch := omega) only [ewZ, reduceCtorEq, seval, hSS]
theorem ok90 : EntryOK Tryd.prog G0 e90 := by
 intro xs hf hp w M0 Im0 hs hM hG hR
 obtain ⟨a, rfl⟩ : ∃ a, xs = [a] := by
  have h : xs.length = 1 := Ax hf
  exact List.length_eq_one_iff.1 h
 have ha : IntKind.u64.wrap a = a := hf.1
 have hr := u64r ha
 have hargs : (SV.concL F0 (env [a]) hs e90.pgen.1).toArray = #[.int .u64 a] := by
  show #[Value.int .u64 (IntKind.u64.wrap a)] = _
  rw [ha]
 rw [hargs]
 refine (Any.bits_Len Tryd.lenA a w hr.1 hr.2).mono ?_
 rintro e w' ⟨rfl, rfl⟩
 refine ⟨hs, Im0, fun _ _ => rfl, fun _ h => h, fun _ h => Or.inl h, ?_, ?_⟩
 ·have hb := Lib.bitLen_le a.toNat 64 (Nat.le_refl _) (by omega)
  show Ending.returned (Value.int .i64 _) = .returned (Value.int .i64 (IntKind.i64.wrap (IntKind.i64.wrap ((Lib.bitLen a.toNat : Nat) : Int))))
  rw [i64w (z := ((Lib.bitLen a.toNat : Nat) : Int)) (by omega) (by omega), i64w (by omega) (by omega)]
 ·exact ⟨fun x hx _ => absurd (show x ∈ [] from hx) List.not_mem_nil, fun x hx _ _ _ _ _ _ _ => absurd (show x ∈ [] from hx) List.not_mem_nil, fun b hb => hR.im b hb, Fr.refl _ _⟩
theorem and64 (x y : Int) (h0 : 0 <= y) (h1 : y <= 18446744073709551615) : 0 <= bitsI .and .u64 x y /\ bitsI .and .u64 x y <= y := by
 have hb : (BitVec.ofInt 64 y).toNat = y.toNat := by rw [BitVec.toNat_ofInt]; omega
 have h2 : (BitVec.ofInt 64 x &&& BitVec.ofInt 64 y).toNat <= y.toNat := by rw [BitVec.toNat_and, hb]; exact Nat.and_le_right
 have e : bitsI .and .u64 x y = ((BitVec.ofInt 64 x &&& BitVec.ofInt 64 y).toNat : Int) := by
  show IntKind.u64.wrap ((BitVec.ofInt 64 x &&& BitVec.ofInt 64 y).toNat : Int) = _
  exact u64w (by omega) (by omega)
 omega
theorem Tt {x : Nat} (h : 1 <= x) (h1 : x <= 1000000) : 1 <= 2 ^ Lib.bitLen x /\ 2 ^ Lib.bitLen x <= 2 * x /\ Lib.bitLen x <= 20 := by
 obtain ⟨a, b, c⟩ := Lib.bitLenAux_bounds 64 x (by omega) (by omega)
 have d := Lib.bitLen_le x 20 (by omega) (by omega)
 refine ⟨Nat.one_le_two_pow, ?_, d⟩
 have : 2 ^ Lib.bitLen x = 2 * 2 ^ (Lib.bitLen x - 1) := by
  rw [<- Nat.pow_succ']; congr 1
  have : 1 <= Lib.bitLen x := a
  omega
 rw [this]
 have : 2 ^ (Lib.bitLen x - 1) <= x := b
 omega
theorem c90ok : c90.OK Tryd.prog G0 := Ctx.OK.addF (c := ⟨[], []⟩) Ctx.OK.nil ok90 rfl
theorem Sn : EntryOK Tryd.prog G0 e103 /\ PostOK e103 MN := by
 refine c90ok.entryJ mixed false ?_
 go_invoke
 refine ⟨_, _, _, _, rfl, by kernel_rfl, ?_⟩
 intro x hx hp l hF ρ hρe hd
 have F90 := hF 90 e90 rfl rfl
 simp only [eqL, Nat.reduceAdd] at hρe
 have hSS := Jj F90 (Jj hρe hx)
 obtain ⟨p1, p2⟩ := hp
 simp only [ewY, seval] at p1 p2
 have w1 : IntKind.u64.wrap x = x := u64w (by omega) (by omega)
 obtain ⟨b1, b2, b3⟩ := Tt (x := x.toNat) (by omega) (by omega)
 refine ⟨?_, ?_⟩ <;> simp (disch := omega) only [ewZ, reduceCtorEq, seval, hSS, w1]
 ·refine ⟨trivial, ?_⟩
  show 0 <= IntKind.i64.wrap ((Lib.bitLen x.toNat : Nat) : Int)
  rw [i64w (by omega) (by omega)]
  omega
 ·show 1 <= IntKind.u64.wrap (1 * 2 ^ min (IntKind.i64.wrap ((Lib.bitLen x.toNat : Nat) : Int)).toNat 64) /\ IntKind.u64.wrap (1 * 2 ^ min (IntKind.i64.wrap ((Lib.bitLen x.toNat : Nat) : Int)).toNat 64) <= 2 * x
  rw [i64w (by omega) (by omega), show min ((Lib.bitLen x.toNat : Nat) : Int).toNat 64 = Lib.bitLen x.toNat by omega]
  have e : (1 * 2 ^ Lib.bitLen x.toNat : Int) = ((2 ^ Lib.bitLen x.toNat : Nat) : Int) := by rw [Int.natCast_pow]; simp
  rw [e, u64w (by omega) (by omega)]
  omega
theorem cBpok : cBp.OK Tryd.prog G0 := Ctx.OK.addF (c := ⟨[], []⟩) Ctx.OK.nil T8.1 rfl
theorem okBp : Ae Tryd.prog G0 93 pBp leBp /\ PostOK leBp.ent Qj := by
 refine cBpok.loopJ mixed muBp false ⟨_, _, _, Tryd.func93, rfl, rfl⟩ 9093 rfl rfl ?_
 go_invoke
 refine ⟨_, _, _, _, rfl, by kernel_rfl, ?_⟩
 intro D a ha n hn r hr m hm i hi hp φ hφ l hS hF ρ hρe hd
 have F104 := hF 104 e104x rfl rfl
 simp only [eqL, Nat.reduceAdd] at hρe
 have hSS := Jj (Jj (Jj F104 hS) (Jj hρe ha)) (Jj (Jj hn hr) (Jj hm hi))
 obtain ⟨p1, p2, p3, p4, p5, p6, p7⟩ := hp
 replace p1 : LN D := p1
 have p0 := p1.2
 simp only [ewY, seval] at p2 p3 p4 p5 p6 p7
 obtain ⟨q, hq⟩ : ∃ q, n / 4 = q := ⟨_, rfl⟩
 have wq : n.tdiv 4 = q := by rw [Int.tdiv_eq_ediv_of_nonneg (by omega)]; exact hq
 have v0 : IntKind.i64.wrap q = q := i64w (by omega) (by omega)
 have v2 : IntKind.i64.wrap (q * 2) = q * 2 := i64w (by omega) (by omega)
 have v3 : IntKind.i64.wrap (a + q * 2) = a + q * 2 := i64w (by omega) (by omega)
 have v4 : IntKind.i64.wrap (a + q * 2 + 1) = a + q * 2 + 1 := i64w (by omega) (by omega)
 have v6 : IntKind.u64.wrap (m - 1) = m - 1 := u64w (by omega) (by omega)
 by_cases c : i <= a + q * 2 + 1
 ·have v5 : IntKind.i64.wrap (i + 1) = i + 1 := i64w (by omega) (by omega)
  have z0 := and64 (IntKind.u64.wrap (e104x.fn 1 [r])) (m - 1) (by omega) (by omega)
  obtain ⟨z, hz⟩ : ∃ z, bitsI .and .u64 (IntKind.u64.wrap (e104x.fn 1 [r])) (m - 1) = z := ⟨_, rfl⟩
  rw [hz] at z0
  have x0 : 0 <= (if n <= z then z - n else z) /\ (if n <= z then z - n else z) < n := by
   by_cases h : n <= z
   ·rw [if_pos h]; omega
   ·rw [if_neg h]; omega
  obtain ⟨o, ho⟩ : ∃ o, (if n <= z then z - n else z) = o := ⟨_, rfl⟩
  rw [ho] at x0
  have wz : IntKind.i64.wrap z = z := i64w (by omega) (by omega)
  have wn : IntKind.i64.wrap (z - n) = z - n := i64w (by omega) (by omega)
  have wo : IntKind.i64.wrap (a + o) = a + o := i64w (by omega) (by omega)
  obtain ⟨x', hx'⟩ : ∃ z, IntKind.u64.wrap (e104x.fn 0 [r]) = z := ⟨_, rfl⟩
  have wx : IntKind.u64.wrap x' = x' := by rw [<- hx']; exact K.norm_norm (.i .u64) _
  have s : St D (swc D i.toNat (a + o).toNat) a (a + n) := St.swc p1.1 p2 (by omega) (by omega) p4
  have lE := AX D i.toNat (a + o).toNat
  obtain ⟨E, hE⟩ : ∃ E, swc D i.toNat (a + o).toNat = E := ⟨_, rfl⟩
  rw [hE] at s lE
  have y2 : lbBp.ent.pre [E, a, n, x', m, i + 1] := ⟨s.ln p1, p2, p3, by show a + n <= ((dc E).length : Int); omega, p5, p6, by show a <= i + 1; omega⟩
  have ym : muBp [E, a, n, x', m, i + 1] < muBp [D, a, n, r, m, i] := by show (a + n - (i + 1)).toNat < (a + n - i).toNat; omega
  have ih := hφ [E, a, n, x', m, i + 1] ⟨rfl, ha, hn, wx, hm, v5, trivial⟩ y2 ym
  obtain ⟨u, hu⟩ : ∃ u, φ 0 [E, a, n, x', m, i + 1] = u := ⟨_, rfl⟩
  have ih : St E u a (a + n) := by rw [<- hu]; exact ih
  have lu := ih.len
  refine ⟨?_, ?_⟩
  ·simp (disch := omega) only [ewZ, reduceCtorEq, seval, hSS, Ag, p1.1.w, As, wq, v0, v2, v3, v4, v5, v6, c, hz, wz, wn, ho, wo, hx', hE, hu, lu, lE]
   exact ⟨⟨trivial, by omega⟩, y2, ym⟩
  ·simp (disch := omega) only [ewZ, reduceCtorEq, seval, hSS, Ag, p1.1.w, As, wq, v0, v2, v3, v4, v5, v6, c, hz, wz, wn, ho, wo, hx', hE, hu]
   exact s.trans ih
 ·refine ⟨?_, ?_⟩ <;> simp (disch := omega) only [ewZ, reduceCtorEq, seval, hSS, wq, v0, v2, v3, v4, c]
  ·exact St.refl p1.1 _ _
theorem c93ok : c93.OK Tryd.prog G0 := Ctx.OK.addF (c := ⟨[], [(93, pBp, leBp)]⟩) (Ctx.OK.addL (c := ⟨[], []⟩) Ctx.OK.nil okBp.1 rfl) Sn.1 rfl
theorem ok93 : EntryOK Tryd.prog G0 e93 /\ PostOK e93 Qk := by
 refine c93ok.entryJ mixed false ?_
 go_invoke
 refine ⟨_, _, _, _, rfl, by kernel_rfl, ?_⟩
 intro D a ha b hb hp l hF ρ hρe hd
 have F103 := hF 103 e103 rfl rfl
 have F9093 := hF 9093 leBp.ent rfl rfl
 simp only [eqL, Nat.reduceAdd] at hρe
 have hSS := Jj (Jj F103 F9093) (Jj hρe (Jj ha hb))
 obtain ⟨p1, p2, p3, p4⟩ := hp
 replace p1 : LN D := p1
 have p0 := p1.2
 simp only [ewY, seval] at p2 p3 p4
 have w1 : IntKind.i64.wrap (b - a) = b - a := i64w (by omega) (by omega)
 by_cases c : b - a >= 8
 ·obtain ⟨q, hq⟩ : ∃ q, (b - a) / 4 = q := ⟨_, rfl⟩
  have wq : (b - a).tdiv 4 = q := by rw [Int.tdiv_eq_ediv_of_nonneg (by omega)]; exact hq
  have v0 : IntKind.i64.wrap q = q := i64w (by omega) (by omega)
  have v2 : IntKind.i64.wrap (q * 2) = q * 2 := i64w (by omega) (by omega)
  have v3 : IntKind.i64.wrap (a + q * 2) = a + q * 2 := i64w (by omega) (by omega)
  have v4 : IntKind.i64.wrap (a + q * 2 - 1) = a + q * 2 - 1 := i64w (by omega) (by omega)
  have w2 : IntKind.u64.wrap (b - a) = b - a := u64w (by omega) (by omega)
  have y0 : e103.pre [b - a] := ⟨by show 1 <= b - a; omega, by show b - a <= 1000000; omega⟩
  have z := Sn.2 [b - a] ⟨w1, trivial⟩ y0
  obtain ⟨m, hm⟩ : ∃ m, IntKind.u64.wrap (e103.fn 0 [b - a]) = m := ⟨_, rfl⟩
  have z : 1 <= m /\ m <= 2 * (b - a) := by rw [<- hm]; exact z
  have y1 : lbBp.ent.pre [D, a, b - a, b - a, m, a + q * 2 - 1] := ⟨p1, p2, c, by show a + (b - a) <= ((dc D).length : Int); omega, z.1, z.2, by show a <= a + q * 2 - 1; omega⟩
  have g := okBp.2 [D, a, b - a, b - a, m, a + q * 2 - 1] ⟨rfl, ha, w1, w2, u64w (by omega) (by omega), v4, trivial⟩ y1
  obtain ⟨u, hu⟩ : ∃ u, leBp.ent.fn 0 [D, a, b - a, b - a, m, a + q * 2 - 1] = u := ⟨_, rfl⟩
  have g : St D u a (a + (b - a)) := by rw [<- hu]; exact g
  rw [show a + (b - a) = b by omega] at g
  have lu := g.len
  refine ⟨?_, ?_⟩
  ·simp (disch := omega) only [ewZ, reduceCtorEq, seval, hSS, w1, w2, c, wq, v0, v2, v3, v4, hm, hu, lu]
   exact ⟨y0, y1⟩
  ·simp (disch := omega) only [ewZ, reduceCtorEq, seval, hSS, w1, w2, c, wq, v0, v2, v3, v4, hm, hu]
   exact g
 ·refine ⟨?_, ?_⟩ <;> simp (disch := omega) only [ewZ, reduceCtorEq, seval, hSS, w1, c]
  ·exact St.refl p1.1 _ _
end
end Go.Proofs.YtgpflpbldeflhaaDoor.Ew.Sr
