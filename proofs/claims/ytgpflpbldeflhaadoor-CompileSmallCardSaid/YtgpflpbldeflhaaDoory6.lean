/- Texts that the claim needs, set narrow. -/
import Derived.Test.YtgpflpbldeflhaaDoory5
set_option linter.unusedVariables false
set_option linter.unusedSimpArgs false
set_option maxHeartbeats 8000000
namespace Go.Proofs.YtgpflpbldeflhaaDoor.Ew.Sr
open Go Go.RowKit
noncomputable section
def pre89 (xs : List Int) : Prop := In3 (env xs 0) (env xs 1) (env xs 2) /\ Lb (vl (env xs 0)) (env xs 1).toNat (env xs 2).toNat /\ 0 <= env xs 3 /\ env xs 3 <= 100
def mu89 (xs : List Int) : Nat := (env xs 2 - env xs 1).toNat
def e89n (nn : Nat) (f0 : Nat -> List Int -> Int) : Ent := ⟨89, 89, [Dt, i64, i64, i64], [dO], [], .tup [], f0, fun xs => pre89 xs /\ mu89 xs < nn⟩
def cD (nn : Nat) (f0 : Nat -> List Int -> Int) : Ctx := ⟨[(e89n nn f0), e91, e92, e93, e94, e95, e96, e97, e98, e99], []⟩
def pD : List Bool := [true,true,false]
def lbD (nn : Nat) : LEnt := ⟨⟨9089, 999999, [Dt, i64, i64, i64, .sc .b, .sc .b], [dO], [], .tup [], z0, fun xs => pre89 xs /\ mu89 xs < nn + 1⟩, [0, 1, 2, 3, 8, 9], [], [1, 2, 3] ++ (List.range 126).map (· + 8), [.ret], 134, []⟩
def leD (nn : Nat) (f0 : Nat -> List Int -> Int) : LEnt := (lbD nn).fw (fnM Tryd.prog G0 89 pD (lbD nn) Bq)
def cE (nn : Nat) (f0 : Nat -> List Int -> Int) : Ctx := ⟨[], [(89, pD, (leD nn f0))]⟩
def b89n (nn : Nat) : Ent := ⟨1089, 89, [Dt, i64, i64, i64], [dO], [], .tup [], z0, fun xs => pre89 xs /\ mu89 xs < nn + 1⟩
def e89s (nn : Nat) (f0 : Nat -> List Int -> Int) : Ent := (b89n nn).fw (fnG Tryd.prog G0 (b89n nn) Bq)
theorem cDok {nn : Nat} {f0 : Nat -> List Int -> Int} (h0 : EntryOK Tryd.prog G0 (e89n nn f0)) : (cD nn f0).OK Tryd.prog G0 :=
 Ctx.OK.addF (c := ⟨[e91, e92, e93, e94, e95, e96, e97, e98, e99], []⟩) (Ctx.OK.addF (c := ⟨[e92, e93, e94, e95, e96, e97, e98, e99], []⟩) (Ctx.OK.addF (c := ⟨[e93, e94, e95, e96, e97, e98, e99], []⟩) (Ctx.OK.addF (c := ⟨[e94, e95, e96, e97, e98, e99], []⟩) (Ctx.OK.addF (c := ⟨[e95, e96, e97, e98, e99], []⟩) (Ctx.OK.addF (c := ⟨[e96, e97, e98, e99], []⟩) (Ctx.OK.addF (c := ⟨[e97, e98, e99], []⟩) (Ctx.OK.addF (c := ⟨[e98, e99], []⟩) (Ctx.OK.addF (c := ⟨[e99], []⟩) (Ctx.OK.addF (c := ⟨[], []⟩) Ctx.OK.nil ok99.1 rfl) ok98.1 rfl) ok97 rfl) ok96.1 rfl) ok95.1 rfl) ok94.1 rfl) ok93.1 rfl) ok92.1 rfl) ok91.1 rfl) h0 rfl
theorem bb (x : Bool) : K.b.norm (b2i x) = b2i x := by cases x <;> rfl
theorem okD {nn : Nat} {f0 : Nat -> List Int -> Int} (h0 : EntryOK Tryd.prog G0 (e89n nn f0) /\ PostOK (e89n nn f0) Bq) : AL Tryd.prog G0 89 pD (leD nn f0) /\ PostOK (leD nn f0).ent Bq := by
 refine (cDok h0.1).loopK mu89 true 9089 [(89, (e89n nn f0)), (91, e91), (92, e92), (93, e93), (94, e94), (95, e95), (96, e96), (97, e97), (98, e98), (99, e99)] ⟨_, _, _, Tryd.func89, rfl, rfl⟩ ?_
 go_invoke
 refine enK rfl ?_
 intro φ l ρ D a ha b hb m hm g hg h hh hp hφ hSS _
 obtain ⟨⟨⟨p1, p2, p3, p4⟩, p5, p6, p7⟩, pn⟩ := hp
 replace pn : (b - a).toNat < nn + 1 := pn
 replace p1 : LN D := p1
 replace p5 : Lb (vl D) a.toNat b.toNat := p5
 have p0 := p1.2
 simp only [ewA, ewL, preC, binI, dvI, shI, cmpB, env, bi, List.headD, List.tail, List.map, Nat.reduceAdd] at p2 p3 p4 p6 p7
 have w1 : IntKind.i64.wrap (b - a) = b - a := i64w (by omega) (by omega)
 by_cases c : b - a <= 12
 ·have y0 : e91.pre [D, a, b] := ⟨p1, p2, p3, p4⟩
  have z := ok91.2 [D, a, b] ⟨rfl, ha, hb, trivial⟩ y0
  obtain ⟨u, hu⟩ : ∃ u, e91.fn 0 [D, a, b] = u := ⟨_, rfl⟩
  have z : St D u a b /\ So (vl u) a.toNat b.toNat := by rw [<- hu]; exact z
  have zl := z.1.len
  refine ⟨?_, ?_⟩
  ·simp (disch := omega) only [ewA, ewL, preC, binI, dvI, shI, cmpB, env, bi, List.headD, List.tail, List.map, Nat.reduceAdd, ewR, ewB, ewM, if_true, if_false, implies_true, forall_const, ne_eq, reduceCtorEq, Int.reduceEq, Int.reduceLT, Int.reduceLE, Int.reduceToNat, Int.reduceAdd, Int.reduceSub, Int.reduceMul, Int.reduceNeg, Int.reduceBEq, Nat.reduceLT, Nat.reduceEqDiff, hSS, w1, c, hu, zl]
   exact y0
  ·simp (disch := omega) only [ewA, ewL, preC, binI, dvI, shI, cmpB, env, bi, List.headD, List.tail, List.map, Nat.reduceAdd, ewR, ewB, ewM, if_true, if_false, implies_true, forall_const, ne_eq, reduceCtorEq, Int.reduceEq, Int.reduceLT, Int.reduceLE, Int.reduceToNat, Int.reduceAdd, Int.reduceSub, Int.reduceMul, Int.reduceNeg, Int.reduceBEq, Nat.reduceLT, Nat.reduceEqDiff, hSS, w1, c, hu]
   exact z
 by_cases c0 : m = 0
 ·have y0 : e92.pre [D, a, b] := ⟨p1, p2, p3, p4⟩
  have z := ok92.2 [D, a, b] ⟨rfl, ha, hb, trivial⟩ y0
  obtain ⟨u, hu⟩ : ∃ u, e92.fn 0 [D, a, b] = u := ⟨_, rfl⟩
  have z : St D u a b /\ So (vl u) a.toNat b.toNat := by rw [<- hu]; exact z
  have zl := z.1.len
  refine ⟨?_, ?_⟩
  ·simp (disch := omega) only [ewA, ewL, preC, binI, dvI, shI, cmpB, env, bi, List.headD, List.tail, List.map, Nat.reduceAdd, ewR, ewB, ewM, if_true, if_false, implies_true, forall_const, ne_eq, reduceCtorEq, Int.reduceEq, Int.reduceLT, Int.reduceLE, Int.reduceToNat, Int.reduceAdd, Int.reduceSub, Int.reduceMul, Int.reduceNeg, Int.reduceBEq, Nat.reduceLT, Nat.reduceEqDiff, hSS, w1, c, c0, hu, zl]
   exact y0
  ·simp (disch := omega) only [ewA, ewL, preC, binI, dvI, shI, cmpB, env, bi, List.headD, List.tail, List.map, Nat.reduceAdd, ewR, ewB, ewM, if_true, if_false, implies_true, forall_const, ne_eq, reduceCtorEq, Int.reduceEq, Int.reduceLT, Int.reduceLE, Int.reduceToNat, Int.reduceAdd, Int.reduceSub, Int.reduceMul, Int.reduceNeg, Int.reduceBEq, Nat.reduceLT, Nat.reduceEqDiff, hSS, w1, c, c0, hu]
   exact z
 have a93 : e93.pre [D, a, b] := ⟨p1, p2, p3, p4⟩
 have l93 : (dc (e93.fn 0 [D, a, b])).length = (dc D).length := St.len (ok93.2 [D, a, b] ⟨rfl, ha, hb, trivial⟩ a93)
 have s1 : St D (if i2b g = false then e93.fn 0 [D, a, b] else D) a b := by
  by_cases h : i2b g = false
  ·rw [if_pos h]; exact ok93.2 [D, a, b] ⟨rfl, ha, hb, trivial⟩ a93
  ·rw [if_neg h]; exact St.refl p1.1 _ _
 obtain ⟨D1, hD1⟩ : ∃ u, (if i2b g = false then e93.fn 0 [D, a, b] else D) = u := ⟨_, rfl⟩
 rw [hD1] at s1
 replace hD1 := fun _ : Unit => hD1
 have l1 := s1.len
 have n1 := s1.ln p1
 have a94 : e94.pre [D1, a, b] := ⟨⟨n1, p2, p3, by show b <= ((dc D1).length : Int); omega⟩, by show a + 12 < b; omega⟩
 have z94 := ok94.2 [D1, a, b] ⟨rfl, ha, hb, trivial⟩ a94
 obtain ⟨u1, hu1⟩ : ∃ u, e94.fn 0 [D1, a, b] = u := ⟨_, rfl⟩
 obtain ⟨r, hr⟩ : ∃ u, IntKind.i64.wrap (e94.fn 1 [D1, a, b]) = u := ⟨_, rfl⟩
 obtain ⟨t, ht⟩ : ∃ u, IntKind.i64.wrap (e94.fn 2 [D1, a, b]) = u := ⟨_, rfl⟩
 have z94 : u1 = D1 /\ a <= r /\ r < b := by rw [<- hu1, <- hr]; exact z94
 obtain ⟨z1, z2, z3⟩ := z94
 have z1 := z1.symm
 subst z1
 have a95 : e95.pre [D1, a, b] := ⟨n1, p2, p3, by show b <= ((dc D1).length : Int); omega⟩
 have l95 : (dc (e95.fn 0 [D1, a, b])).length = (dc D).length := (St.len (ok95.2 [D1, a, b] ⟨rfl, ha, hb, trivial⟩ a95)).trans l1
 have s2 : St D (if t = 2 then e95.fn 0 [D1, a, b] else D1) a b := by
  by_cases h : t = 2
  ·rw [if_pos h]; exact s1.trans (ok95.2 [D1, a, b] ⟨rfl, ha, hb, trivial⟩ a95)
  ·rw [if_neg h]; exact s1
 obtain ⟨D2, hD2⟩ : ∃ u, (if t = 2 then e95.fn 0 [D1, a, b] else D1) = u := ⟨_, rfl⟩
 rw [hD2] at s2
 replace hD2 := fun _ : Unit => hD2
 have l2 := s2.len
 have n2 := s2.ln p1
 have b2 := p5.sg s2.2 (by rw [Au]; omega)
 have v1 : IntKind.i64.wrap (b - 1) = b - 1 := i64w (by omega) (by omega)
 have v2 : IntKind.i64.wrap (r - a) = r - a := i64w (by omega) (by omega)
 have v3 : IntKind.i64.wrap (b - 1 - (r - a)) = b - 1 - (r - a) := i64w (by omega) (by omega)
 have v4 : IntKind.i64.wrap (a - 1) = a - 1 := i64w (by omega) (by omega)
 have v5 : IntKind.i64.wrap (m - 1) = m - 1 := i64w (by omega) (by omega)
 obtain ⟨p, hp'⟩ : ∃ u, (if t = 2 then b - 1 - (r - a) else r) = u := ⟨_, rfl⟩
 have hpr : a <= p /\ p < b := by
  rw [<- hp']
  by_cases h : t = 2
  ·rw [if_pos h]; omega
  ·rw [if_neg h]; omega
 replace hp' := fun _ : Unit => hp'
 obtain ⟨t', ht'⟩ : ∃ u, (if t = 2 then 1 else t) = u := ⟨_, rfl⟩
 replace ht' := fun _ : Unit => ht'
 obtain ⟨m', hm'⟩ : ∃ u, (if i2b g = false then m - 1 else m) = u := ⟨_, rfl⟩
 have hmr : 0 <= m' /\ m' <= 100 := by
  rw [<- hm']
  by_cases h : i2b g = false
  ·rw [if_pos h]; omega
  ·rw [if_neg h]; omega
 replace hm' := fun _ : Unit => hm'
 have a96 : e96.pre [D2, a, b] := ⟨⟨n2, p2, p3, by show b <= ((dc D2).length : Int); omega⟩, by show a < b; omega, b2⟩
 have z96 := ok96.2 [D2, a, b] ⟨rfl, ha, hb, trivial⟩ a96
 obtain ⟨D6, hD6⟩ : ∃ u, e96.fn 0 [D2, a, b] = u := ⟨_, rfl⟩
 obtain ⟨q, hq⟩ : ∃ u, K.b.norm (e96.fn 1 [D2, a, b]) = u := ⟨_, rfl⟩
 have z96 : St D2 D6 a b /\ (q ≠ 0 -> So (vl D6) a.toNat b.toNat) := by rw [<- hD6, <- hq]; exact z96
 have l6 := z96.1.len.trans l2
 have s3 : St D (if (i2b g = true /\ i2b h = true) /\ t' = 1 then D6 else D2) a b := by
  split
  ·exact s2.trans z96.1
  ·exact s2
 obtain ⟨D3, hD3⟩ : ∃ u, (if (i2b g = true /\ i2b h = true) /\ t' = 1 then D6 else D2) = u := ⟨_, rfl⟩
 rw [hD3] at s3
 replace hD3 := fun _ : Unit => hD3
 have l3 := s3.len
 have n3 := s3.ln p1
 have b3 := p5.sg s3.2 (by rw [Au]; omega)
 have nx : ∀ W r' b' x5 x6 : Int, LN W -> a <= r' -> r' <= b' -> b' <= b -> b' - r' < b - a -> (dc W).length = (dc D).length -> Lb (vl W) r'.toNat b'.toNat -> K.b.norm x5 = x5 -> K.b.norm x6 = x6 ->
  ((lbD nn).ent.pre [W, r', b', m', x5, x6] /\ mu89 [W, r', b', m', x5, x6] < mu89 [D, a, b, m, g, h]) /\ St W (φ 0 [W, r', b', m', x5, x6]) r' b' /\ So (vl (φ 0 [W, r', b', m', x5, x6])) r'.toNat b'.toNat := fun W r' b' x5 x6 h1 h2 h3 h4 h5 h6 h7 h8 h9 => by
  have y2 : (lbD nn).ent.pre [W, r', b', m', x5, x6] := ⟨⟨⟨h1, by show 0 <= r'; omega, h3, by show b' <= ((dc W).length : Int); omega⟩, h7, hmr.1, hmr.2⟩, by show (b' - r').toNat < nn + 1; omega⟩
  have ym : mu89 [W, r', b', m', x5, x6] < mu89 [D, a, b, m, g, h] := by show (b' - r').toNat < (b - a).toNat; omega
  have ih := hφ [W, r', b', m', x5, x6] ⟨rfl, i64w (by omega) (by omega), i64w (by omega) (by omega), i64w (by omega) (by omega), h8, h9, trivial⟩ y2 ym
  exact ⟨⟨y2, ym⟩, ih⟩
 have rc : ∀ W x y : Int, LN W -> a <= x -> x <= y -> y <= b -> y - x < b - a -> (dc W).length = (dc D).length -> Lb (vl W) x.toNat y.toNat ->
  (e89n nn f0).pre [W, x, y, m'] /\ St W ((e89n nn f0).fn 0 [W, x, y, m']) x y /\ So (vl ((e89n nn f0).fn 0 [W, x, y, m'])) x.toNat y.toNat := fun W x y h1 h2 h3 h4 h5 h6 h7 => by
  have y2 : (e89n nn f0).pre [W, x, y, m'] := ⟨⟨⟨h1, by show 0 <= x; omega, h3, by show y <= ((dc W).length : Int); omega⟩, h7, hmr.1, hmr.2⟩, by show (y - x).toNat < nn; omega⟩
  exact ⟨y2, h0.2 [W, x, y, m'] ⟨rfl, i64w (by omega) (by omega), i64w (by omega) (by omega), i64w (by omega) (by omega), trivial⟩ y2⟩
 have y99 : pre99 [D3, a, b, p] := ⟨⟨n3, p2, p3, by show b <= ((dc D3).length : Int); omega⟩, by show a + 1 < b; omega, hpr.1, hpr.2⟩
 have k8 : (0 < a /\ at0 (vl D3) p.toNat <= at0 (vl D3) (a - 1).toNat) -> ∃ D8 r8, e98.fn 0 [D3, a, b, p] = D8 /\ IntKind.i64.wrap (e98.fn 1 [D3, a, b, p]) = r8 /\ e98.pre [D3, a, b, p] /\ (dc D8).length = (dc D).length /\
  ((lbD nn).ent.pre [D8, r8, b, m', g, h] /\ mu89 [D8, r8, b, m', g, h] < mu89 [D, a, b, m, g, h]) /\ (dc (φ 0 [D8, r8, b, m', g, h])).length = (dc D).length /\ St D (φ 0 [D8, r8, b, m', g, h]) a b /\ So (vl (φ 0 [D8, r8, b, m', g, h])) a.toNat b.toNat := fun hc => by
  have a98 : e98.pre [D3, a, b, p] := ⟨y99, fun k k1 k2 => by
   replace k1 : a.toNat <= k := k1
   replace k2 : k < b.toNat := k2
   have := b3 (by omega) k k1 k2
   rw [show a.toNat - 1 = (a - 1).toNat by omega] at this
   show at0 (vl D3) p.toNat <= at0 (vl D3) k
   omega⟩
  have z := ok98.2 [D3, a, b, p] ⟨rfl, ha, hb, i64w (by omega) (by omega), trivial⟩ a98
  obtain ⟨D8, hD8⟩ : ∃ u, e98.fn 0 [D3, a, b, p] = u := ⟨_, rfl⟩
  obtain ⟨r8, hr8⟩ : ∃ u, IntKind.i64.wrap (e98.fn 1 [D3, a, b, p]) = u := ⟨_, rfl⟩
  have z : St D3 D8 a b /\ a < r8 /\ r8 <= b /\ (∀ k : Nat, a.toNat <= k -> k < r8.toNat -> at0 (vl D8) k = at0 (vl D3) p.toNat) /\ ∀ k : Nat, r8.toNat <= k -> k < b.toNat -> at0 (vl D3) p.toNat <= at0 (vl D8) k := by rw [<- hD8, <- hr8]; exact z
  obtain ⟨e1, e2, e3, e4, e5⟩ := z
  have l8 := e1.len.trans l3
  have n8 := e1.ln n3
  obtain ⟨kk, lb⟩ := (Kk.start (vl D8) a.toNat b.toNat).eq e4 e5 ⟨by omega, by omega⟩ (by rw [Au]; omega)
  obtain ⟨x1, x2, x3⟩ := nx D8 r8 b g h n8 (by omega) e3 (Int.le_refl _) (by omega) l8 lb hg hh
  exact ⟨D8, r8, hD8, hr8, a98, l8, x1, x2.len.trans l8, s3.trans (e1.trans (x2.mono (by omega) (Int.le_refl _))), kk _ x2.2 x3⟩
 have a99 : e99.pre [D3, a, b, p] := y99
 have z99 := ok99.2 [D3, a, b, p] ⟨rfl, ha, hb, i64w (by omega) (by omega), trivial⟩ a99
 obtain ⟨D9, hD9⟩ : ∃ u, e99.fn 0 [D3, a, b, p] = u := ⟨_, rfl⟩
 obtain ⟨r9, hr9⟩ : ∃ u, IntKind.i64.wrap (e99.fn 1 [D3, a, b, p]) = u := ⟨_, rfl⟩
 obtain ⟨k9, hk9⟩ : ∃ u, K.b.norm (e99.fn 2 [D3, a, b, p]) = u := ⟨_, rfl⟩
 have nk9 : K.b.norm k9 = k9 := by rw [<- hk9]; exact K.norm_norm .b _
 have z99 : St D3 D9 a b /\ Pt (vl D9) a.toNat b.toNat r9.toNat /\ a <= r9 /\ r9 < b := by rw [<- hD9, <- hr9]; exact z99
 obtain ⟨f1, f2, f3, f4⟩ := z99
 have l9 := f1.len.trans l3
 have n9 := f1.ln n3
 have b9 := b3.sg f1.2 (by rw [Au]; omega)
 have s9 := s3.trans f1
 have u1 : IntKind.i64.wrap (r9 - a) = r9 - a := i64w (by omega) (by omega)
 have u2 : IntKind.i64.wrap (b - r9) = b - r9 := i64w (by omega) (by omega)
 have u3 : IntKind.i64.wrap (r9 + 1) = r9 + 1 := i64w (by omega) (by omega)
 obtain ⟨L1, L2, L3⟩ := rc D9 a r9 n9 (Int.le_refl _) f3 (by omega) (by omega) l9 (fun h k h1 h2 => b9 h k h1 (by omega))
 have lR : Lb (vl D9) (r9 + 1).toNat b.toNat := fun h k h1 h2 => by rw [show (r9 + 1).toNat - 1 = r9.toNat by omega]; exact f2.up k (by omega) h2
 obtain ⟨R1, R2, R3⟩ := rc D9 (r9 + 1) b n9 (by omega) (by omega) (Int.le_refl _) (by omega) l9 lR
 obtain ⟨L, hL⟩ : ∃ u, (e89n nn f0).fn 0 [D9, a, r9, m'] = u := ⟨_, rfl⟩
 obtain ⟨R, hR⟩ : ∃ u, (e89n nn f0).fn 0 [D9, r9 + 1, b, m'] = u := ⟨_, rfl⟩
 rw [hL] at L2 L3
 rw [hR] at R2 R3
 have lL := L2.len.trans l9
 have lRR := R2.len.trans l9
 have nL := L2.ln n9
 have nR := R2.ln n9
 have xL : ∀ x5 x6, K.b.norm x5 = x5 -> K.b.norm x6 = x6 -> ((lbD nn).ent.pre [L, r9 + 1, b, m', x5, x6] /\ mu89 [L, r9 + 1, b, m', x5, x6] < mu89 [D, a, b, m, g, h]) /\ (dc (φ 0 [L, r9 + 1, b, m', x5, x6])).length = (dc D).length /\ St D (φ 0 [L, r9 + 1, b, m', x5, x6]) a b /\ So (vl (φ 0 [L, r9 + 1, b, m', x5, x6])) a.toNat b.toNat := fun x5 x6 h5 h6 => by
  obtain ⟨kk, lb, _⟩ := (Kk.start (vl D9) a.toNat b.toNat).left f2 (by rw [Au]; omega) L2.2 L3
  rw [show r9.toNat + 1 = (r9 + 1).toNat by omega] at kk lb
  obtain ⟨x1, x2, x3⟩ := nx L (r9 + 1) b x5 x6 nL (by omega) (by omega) (Int.le_refl _) (by omega) lL lb h5 h6
  exact ⟨x1, x2.len.trans lL, s9.trans ((L2.mono (Int.le_refl _) (by omega)).trans (x2.mono (by omega) (Int.le_refl _))), kk _ x2.2 x3⟩
 have xR : ∀ x5 x6, K.b.norm x5 = x5 -> K.b.norm x6 = x6 -> ((lbD nn).ent.pre [R, a, r9, m', x5, x6] /\ mu89 [R, a, r9, m', x5, x6] < mu89 [D, a, b, m, g, h]) /\ (dc (φ 0 [R, a, r9, m', x5, x6])).length = (dc D).length /\ St D (φ 0 [R, a, r9, m', x5, x6]) a b /\ So (vl (φ 0 [R, a, r9, m', x5, x6])) a.toNat b.toNat := fun x5 x6 h5 h6 => by
  have R2' : Sg (vl D9) (vl R) (r9.toNat + 1) b.toNat := by rw [show r9.toNat + 1 = (r9 + 1).toNat by omega]; exact R2.2
  have R3' : So (vl R) (r9.toNat + 1) b.toNat := by rw [show r9.toNat + 1 = (r9 + 1).toNat by omega]; exact R3
  obtain ⟨kk, _⟩ := (Kk.start (vl D9) a.toNat b.toNat).right f2 (by rw [Au]; omega) R2' R3'
  have lb : Lb (vl R) a.toNat r9.toNat := fun h k h1 h2 => by
   rw [R2.2.out (a.toNat - 1) (Or.inl (by omega)), R2.2.out k (Or.inl (by omega))]
   exact b9 h k h1 (by omega)
  obtain ⟨x1, x2, x3⟩ := nx R a r9 x5 x6 nR (Int.le_refl _) f3 (by omega) (by omega) lRR lb h5 h6
  exact ⟨x1, x2.len.trans lRR, s9.trans ((R2.mono (by omega) (Int.le_refl _)).trans (x2.mono (Int.le_refl _) (by omega))), kk _ x2.2 x3⟩
 have hq1 : i2b q = true -> So (vl D6) a.toNat b.toNat := fun h => z96.2 fun e => by rw [e] at h; cases h
 have s6 : St D D6 a b := s2.trans z96.1
 refine ⟨?_, ?_⟩ <;> simp (disch := omega) only [ewA, ewL, preC, binI, dvI, shI, cmpB, env, bi, List.headD, List.tail, List.map, Nat.reduceAdd, ewR, ewB, ewM, if_true, if_false, implies_true, forall_const, ne_eq, reduceCtorEq, Int.reduceEq, Int.reduceLT, Int.reduceLE, Int.reduceToNat, Int.reduceAdd, Int.reduceSub, Int.reduceMul, Int.reduceNeg, Int.reduceBEq, Nat.reduceLT, Nat.reduceEqDiff, hSS, Ai, n3.1.w, tb, l97.1, l97.2, w1, v1, v2, v3, v4, v5, c, c0, hD1 (), hu1, hr, ht, hD2 (), hp' (), ht' (), hm' (), hD6, hq, hD3 (), l1, l2, l3, l6, l93, l95, hD9, hr9, hk9, u1, u2, u3, hL, hR, l9, lL, lRR]
 ·refine ⟨⟨fun _ => a93, a94, fun _ => a95, fun _ => a96, fun hT => ⟨fun _ => by omega, fun _ => by omega, fun h8 => ?_, fun _ => ⟨a99, fun _ => L1, fun _ => R1⟩⟩⟩, fun _ => ?_⟩
  ·obtain ⟨D8, r8, e1, e2, e3, e4, _⟩ := k8 h8
   exact ⟨e3, by rw [e1, e4]; exact i64w (by omega) (by omega)⟩
  ·by_cases h8 : ((i2b g = true /\ i2b h = true) /\ t' = 1 -> i2b q = false) /\ 0 < a /\ at0 (vl D3) p.toNat <= at0 (vl D3) (a - 1).toNat
   ·obtain ⟨D8, r8, e1, e2, e3, e4, e5, e6, _⟩ := k8 h8.2
    simp only [if_pos h8, e1, e2]
    exact ⟨e5, by rw [e6]; exact i64w (by omega) (by omega)⟩
   ·simp only [if_neg h8]
    by_cases h9 : r9 - a < b - r9
    ·simp only [if_pos h9]
     exact ⟨(xL _ _ (bb _) nk9).1, by rw [(xL _ _ (bb _) nk9).2.1]; exact i64w (by omega) (by omega)⟩
    ·simp only [if_neg h9]
     exact ⟨(xR _ _ (bb _) nk9).1, by rw [(xR _ _ (bb _) nk9).2.1]; exact i64w (by omega) (by omega)⟩
 ·by_cases hr' : ((i2b g = true /\ i2b h = true) /\ t' = 1) /\ i2b q = true
  ·rw [if_pos hr']; exact ⟨s6, hq1 hr'.2⟩
  ·rw [if_neg hr']
   by_cases h8 : ((i2b g = true /\ i2b h = true) /\ t' = 1 -> i2b q = false) /\ 0 < a /\ at0 (vl D3) p.toNat <= at0 (vl D3) (a - 1).toNat
   ·obtain ⟨D8, r8, e1, e2, e3, e4, e5, e6, e7⟩ := k8 h8.2
    simp only [if_pos h8, e1, e2]
    exact e7
   ·simp only [if_neg h8]
    by_cases h9 : r9 - a < b - r9
    ·simp only [if_pos h9]
     exact (xL _ _ (bb _) nk9).2.2
    ·simp only [if_neg h9]
     exact (xR _ _ (bb _) nk9).2.2
theorem ok89s {nn : Nat} {f0 : Nat -> List Int -> Int} (h0 : EntryOK Tryd.prog G0 (e89n nn f0) /\ PostOK (e89n nn f0) Bq) : EntryOK Tryd.prog G0 (e89s nn f0) /\ PostOK (e89s nn f0) Bq := by
 have hL0 := okD h0
 have cEok : (cE nn f0).OK Tryd.prog G0 := Ctx.OK.addL (c := ⟨[], []⟩) Ctx.OK.nil hL0.1 rfl
 refine cEok.entryK false [(9089, (leD nn f0).ent)] ?_
 go_invoke
 refine enK rfl ?_
 intro l ρ D a ha b hb m hm hp hSS _
 have pp := hp
 obtain ⟨⟨⟨p1, p2, p3, p4⟩, p5, p6, p7⟩, pn⟩ := hp
 have y0 : (lbD nn).ent.pre [D, a, b, m, 1, 1] := pp
 have z := hL0.2 [D, a, b, m, 1, 1] ⟨rfl, ha, hb, hm, rfl, rfl, trivial⟩ y0
 obtain ⟨u, hu⟩ : ∃ u, (leD nn f0).ent.fn 0 [D, a, b, m, 1, 1] = u := ⟨_, rfl⟩
 have z : St D u a b /\ So (vl u) a.toNat b.toNat := by rw [<- hu]; exact z
 have zl := z.1.len
 refine ⟨?_, ?_⟩
 ·simp (disch := omega) only [ewZ, reduceCtorEq, seval, hSS, hu, zl]
  exact y0
 ·simp (disch := omega) only [ewZ, reduceCtorEq, seval, hSS, hu]
  exact z
end
end Go.Proofs.YtgpflpbldeflhaaDoor.Ew.Sr
