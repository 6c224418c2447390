/- Texts that the claim needs, set narrow. -/
import Derived.Test.YtgpflpbldeflhaaDoory7
set_option linter.unusedVariables false
set_option linter.unusedSimpArgs false
set_option maxHeartbeats 8000000
namespace Go.Proofs.YtgpflpbldeflhaaDoor.Ew.Sr
open Go Go.RowKit
noncomputable section
def se4 : Sh := .agg [u64, u64, u64, u64]
def PB (xs ys : List Int) : Prop := ys = [bitsI .andNot .u64 (env xs 0) (env xs 4), bitsI .andNot .u64 (env xs 1) (env xs 5), bitsI .andNot .u64 (env xs 2) (env xs 6), bitsI .andNot .u64 (env xs 3) (env xs 7)]
def b38 : Ent := ⟨38, 38, [se4, se4], [], [], se4, z0, T0⟩
def e38 : Ent := b38.fw (fnG Tryd.prog G0 b38 PB)
def lenS (l : List Int) : Prop := ∀ c ∈ l, ((dc c).length : Int) <= 1000000
def pre28 (xs : List Int) : Prop := lenS [env xs 1, env xs 2, env xs 3, env xs 4, env xs 5, env xs 6, env xs 7]
def PC (xs ys : List Int) : Prop := env ys 0 = (dc (env xs 1)).length + (dc (env xs 2)).length + (dc (env xs 3)).length + (dc (env xs 4)).length + (dc (env xs 5)).length + (dc (env xs 6)).length + (dc (env xs 7)).length
def b28 : Ent := ⟨28, 28, [tab], [], [0, 1, 2, 3, 4, 5, 6], i64, z0, pre28⟩
def e28 : Ent := b28.fw (fnG Tryd.prog G0 b28 PC)
def beyF (i : Nat) (s : List Int) : List Int := ((List.range 256).drop i).foldl (fun s j => orB j s) s
def preR (xs : List Int) : Prop := 0 <= env xs 4 /\ env xs 4 <= 256
def Nh (xs ys : List Int) : Prop := ys = beyF (env xs 4).toNat [env xs 0, env xs 1, env xs 2, env xs 3]
def muR (xs : List Int) : Nat := (256 - env xs 4).toNat
def pR : List Bool := [true,true,true,false,true,false]
def lbR : LEnt := ⟨⟨9016, 999999, [seS, i64], [seO 0], [], .tup [], z0, preR⟩, [3, 4], [], [4] ++ (List.range 13).map (· + 19), [.ex 0], 103, []⟩
def leR : LEnt := lbR.fw (fnM Tryd.prog G0 16 pR lbR Nh)
def rowG (L : RL) (b : List Int) (j : Nat) : Prop := (0 < j -> (L.getD (j - 1) []).getD 0 0 < (L.getD j []).getD 0 0 /\ (L.getD (j - 1) []).drop 1 ≠ (L.getD j []).drop 1) /\ (L.getD j []).drop 1 = List.zipWith (bitsI .andNot .u64) ((L.getD j []).drop 1) b
def preW (xs : List Int) : Prop := env xs 5 = env xs 6 /\ rowsOK clK (dc (env xs 5)) /\ env xs 7 = ((dc (env xs 5)).length : Int) /\ 0 <= env xs 8 /\ env xs 8 <= env xs 7 /\ env xs 7 <= 1000000
def Ni (xs ys : List Int) : Prop := (env ys 0 = 1 /\ ∀ j : Nat, (env xs 8).toNat <= j -> j < (dc (env xs 5)).length -> rowG (dc (env xs 5)) [env xs 1, env xs 2, env xs 3, env xs 4] j) \/ (env ys 0 = 0 /\ env ys 1 = 0 /\ ∃ j : Nat, j < (dc (env xs 5)).length /\ ¬ rowG (dc (env xs 5)) [env xs 1, env xs 2, env xs 3, env xs 4] j)
def muW (xs : List Int) : Nat := (env xs 7 - env xs 8).toNat
def pW : List Bool := [true,true,true,true,false,true,false,false,true,true,false,false,true,true,true,false]
def lbW : LEnt := ⟨⟨9216, 999999, [.sc .b, seS, lcl, lcl, i64, i64], [], [0, 1, 2], .tup [.sc .b, .sc .b], z0, preW⟩, [2, 3, 6, 61, 62, 63], [2], [7, 8] ++ (List.range 39).map (· + 63), [.ex 4, .ret], 103, [6, 61]⟩
def cW : Ctx := ⟨[e38], []⟩
def leW : LEnt := lbW.fw (fnM Tryd.prog G0 16 pW lbW Ni)
theorem ok38 : EPz e38 PB := by
 refine Ctx.OK.nil.entryK false [] ?_
 go_invoke
 refine enK rfl ?_
 intro l ρ a0 ha0 a1 ha1 a2 ha2 a3 ha3 b0 hb0 b1 hb1 b2 hb2 b3 hb3 hp hSS _
 refine ⟨?_, ?_⟩ <;> simp (disch := omega) only [ewZ, reduceCtorEq, seval, hSS]
 ·rfl
theorem ok28 : EPz e28 PC := by
 refine Ctx.OK.nil.entryK false [] ?_
 go_invoke
 refine enK rfl ?_
 intro l ρ n hn g0 g1 g2 g3 g4 g5 g6 hp hSS _
 have b0 : ((dc g0).length : Int) <= 1000000 := hp g0 (by simp [env])
 have b1 : ((dc g1).length : Int) <= 1000000 := hp g1 (by simp [env])
 have b2 : ((dc g2).length : Int) <= 1000000 := hp g2 (by simp [env])
 have b3 : ((dc g3).length : Int) <= 1000000 := hp g3 (by simp [env])
 have b4 : ((dc g4).length : Int) <= 1000000 := hp g4 (by simp [env])
 have b5 : ((dc g5).length : Int) <= 1000000 := hp g5 (by simp [env])
 have b6 : ((dc g6).length : Int) <= 1000000 := hp g6 (by simp [env])
 refine ⟨?_, ?_⟩ <;> simp (disch := omega) only [ewZ, reduceCtorEq, seval, hSS]
 ·show 0 + ((dc g0).length : Int) + (dc g1).length + (dc g2).length + (dc g3).length + (dc g4).length + (dc g5).length + (dc g6).length = (dc g0).length + (dc g1).length + (dc g2).length + (dc g3).length + (dc g4).length + (dc g5).length + (dc g6).length
  omega
theorem okR : IPz 16 pR leR Nh := by
 refine Ctx.OK.nil.loopK muR false 9016 [] ⟨_, _, _, Tryd.func16, rfl, rfl⟩ ?_
 go_invoke
 refine enK rfl ?_
 intro φ l ρ q0 hq0 q1 hq1 q2 hq2 q3 hq3 i hi hp hφ hSS _
 obtain ⟨p3, p5⟩ := hp
 simp only [ewY, seval] at p3 p5
 by_cases c : i < 256
 ·have hdr : beyF i.toNat [q0, q1, q2, q3] = beyF (i.toNat + 1) (orB i.toNat [q0, q1, q2, q3]) := by
   unfold beyF
   rw [List.drop_eq_getElem_cons (by simp; omega), List.getElem_range, List.foldl_cons]
  have nx : ∀ a0 a1 a2 a3 : Int, [a0, a1, a2, a3] = orB i.toNat [q0, q1, q2, q3] -> IntKind.u64.wrap a0 = a0 -> IntKind.u64.wrap a1 = a1 -> IntKind.u64.wrap a2 = a2 -> IntKind.u64.wrap a3 = a3 ->
   (lbR.ent.pre [a0, a1, a2, a3, i + 1] /\ muR [a0, a1, a2, a3, i + 1] < muR [q0, q1, q2, q3, i]) /\
   Nh [q0, q1, q2, q3, i] [IntKind.u64.wrap (φ 0 [a0, a1, a2, a3, i + 1]), IntKind.u64.wrap (φ 1 [a0, a1, a2, a3, i + 1]), IntKind.u64.wrap (φ 2 [a0, a1, a2, a3, i + 1]), IntKind.u64.wrap (φ 3 [a0, a1, a2, a3, i + 1])] := fun a0 a1 a2 a3 h w0 w1 w2 w3 => by
   have yp : lbR.ent.pre [a0, a1, a2, a3, i + 1] := ⟨by show 0 <= i + 1; omega, by show i + 1 <= 256; omega⟩
   have ym : muR [a0, a1, a2, a3, i + 1] < muR [q0, q1, q2, q3, i] := by show (256 - (i + 1)).toNat < (256 - i).toNat; omega
   have ih := hφ [a0, a1, a2, a3, i + 1] ⟨w0, w1, w2, w3, i64w (by omega) (by omega), trivial⟩ yp ym
   have ih : [IntKind.u64.wrap (φ 0 [a0, a1, a2, a3, i + 1]), IntKind.u64.wrap (φ 1 [a0, a1, a2, a3, i + 1]), IntKind.u64.wrap (φ 2 [a0, a1, a2, a3, i + 1]), IntKind.u64.wrap (φ 3 [a0, a1, a2, a3, i + 1])] = beyF (i + 1).toNat [a0, a1, a2, a3] := ih
   refine ⟨⟨yp, ym⟩, ?_⟩
   show [_, _, _, _] = beyF i.toNat [q0, q1, q2, q3]
   rw [ih, hdr, show (i + 1).toNat = i.toNat + 1 by omega, h]
  obtain ⟨D, hD⟩ : ∃ D, i / 64 = D := ⟨_, rfl⟩
  have e1 : i.tdiv 64 = D := by rw [Int.tdiv_eq_ediv_of_nonneg p3]; exact hD
  have e2 : IntKind.i64.wrap D = D := i64w (by omega) (by omega)
  have e3 : IntKind.u8.wrap D = D := u8w (by omega) (by omega)
  have e4 : D.tmod 4 = D := by rw [Int.tmod_eq_emod_of_nonneg (by omega)]; omega
  have e6 : i.tmod 64 = i % 64 := Int.tmod_eq_emod_of_nonneg p3
  obtain ⟨B, hB⟩ : ∃ B : Int, (2 : Int) ^ (i.toNat % 64) = B := ⟨_, rfl⟩
  have e5 : IntKind.u64.wrap (1 * 2 ^ min (i % 64).toNat IntKind.u64.bits) = B := by
   rw [show min (i % 64).toNat IntKind.u64.bits = i.toNat % 64 by show min (i % 64).toNat 64 = _; omega, Int.one_mul, <- hB]
   have h1 : (2 : Int) ^ (i.toNat % 64) = ((2 ^ (i.toNat % 64) : Nat) : Int) := by rw [Int.natCast_pow]; rfl
   have h2 : 2 ^ (i.toNat % 64) <= 2 ^ 63 := Nat.pow_le_pow_right (by omega) (by omega)
   rw [h1]
   obtain ⟨Q, hQ⟩ : ∃ Q, 2 ^ (i.toNat % 64) = Q := ⟨_, rfl⟩
   rw [hQ] at h2 ⊢
   rw [u64w (by omega) (by omega)]
  have hor : orB i.toNat [q0, q1, q2, q3] = [q0, q1, q2, q3].set D.toNat (bitsI .or .u64 ([q0, q1, q2, q3].getD D.toNat 0) B) := by
   unfold orB
   rw [hB, show i.toNat / 64 = D.toNat by omega]
  have ww : ∀ a b : Int, IntKind.u64.wrap (bitsI .or .u64 a b) = bitsI .or .u64 a b := fun a b => As _ _
  have hm : 0 <= i % 64 := by omega
  rw [hor] at nx
  rcases (show D = 0 \/ D = 1 \/ D = 2 \/ D = 3 by omega) with rfl | rfl | rfl | rfl
  ·have z := nx (bitsI .or .u64 q0 B) q1 q2 q3 rfl (ww _ _) hq1 hq2 hq3
   refine ⟨?_, ?_⟩ <;> simp (disch := omega) only [ewZ, reduceCtorEq, seval, hSS, c, e1, e2, e3, e4, e5, e6, Int.reduceEq, if_true, if_false]
   ·exact ⟨hm, z.1⟩
   ·exact z.2
  ·have z := nx q0 (bitsI .or .u64 q1 B) q2 q3 rfl hq0 (ww _ _) hq2 hq3
   refine ⟨?_, ?_⟩ <;> simp (disch := omega) only [ewZ, reduceCtorEq, seval, hSS, c, e1, e2, e3, e4, e5, e6, Int.reduceEq, if_true, if_false]
   ·exact ⟨hm, z.1⟩
   ·exact z.2
  ·have z := nx q0 q1 (bitsI .or .u64 q2 B) q3 rfl hq0 hq1 (ww _ _) hq3
   refine ⟨?_, ?_⟩ <;> simp (disch := omega) only [ewZ, reduceCtorEq, seval, hSS, c, e1, e2, e3, e4, e5, e6, Int.reduceEq, if_true, if_false]
   ·exact ⟨hm, z.1⟩
   ·exact z.2
  ·have z := nx q0 q1 q2 (bitsI .or .u64 q3 B) rfl hq0 hq1 hq2 (ww _ _)
   refine ⟨?_, ?_⟩ <;> simp (disch := omega) only [ewZ, reduceCtorEq, seval, hSS, c, e1, e2, e3, e4, e5, e6, Int.reduceEq, if_true, if_false]
   ·exact ⟨hm, z.1⟩
   ·exact z.2
 ·refine ⟨?_, ?_⟩ <;> simp (disch := omega) only [ewZ, reduceCtorEq, seval, hSS, c]
  ·show [q0, q1, q2, q3] = beyF i.toNat [q0, q1, q2, q3]
   unfold beyF
   rw [List.drop_eq_nil_of_le (by simp; omega)]; rfl
theorem cWok : cW.OK Tryd.prog G0 := ⟨rfl, mF ⟨ok38.1, trivial⟩, mF trivial⟩
theorem bw1 {g0 g1 g2 g3 g4 f0 f1 f2 f3 f4 x1 x2 x3 x4 : Int} (h : ¬ ((g0 < f0 /\ (g1 = f1 -> g2 = f2 -> g3 = f3 -> ¬g4 = f4)) /\ f1 = x1 /\ f2 = x2 /\ f3 = x3 /\ f4 = x4)) :
 (!(decide True && (decide True && (decide (f0 <= g0) || g1 == f1 && (g2 == f2 && (g3 == f3 && g4 == f4))) || !(f1 == x1 && (f2 == x2 && (f3 == x3 && f4 == x4)))))) = false := by
 simp only [decide_true, Bool.true_and, Bool.not_eq_false', Bool.or_eq_true, Bool.and_eq_true, decide_eq_true_eq, beq_iff_eq, Bool.not_eq_true', Bool.not_eq_false]
 by_cases k : (f1 == x1 && (f2 == x2 && (f3 == x3 && f4 == x4))) = true
 ·left
  simp only [Bool.and_eq_true, beq_iff_eq] at k
  by_cases k2 : f0 <= g0
  ·exact Or.inl k2
  ·exact Or.inr (Classical.byContradiction fun k3 => h ⟨⟨by omega, fun a b c d => k3 ⟨a, b, c, d⟩⟩, k⟩)
 ·exact Or.inr (Bool.eq_false_iff.2 k)
theorem bw2 {f1 f2 f3 f4 x1 x2 x3 x4 : Int} (A : Bool) (h : ¬ (f1 = x1 /\ f2 = x2 /\ f3 = x3 /\ f4 = x4)) :
 (!(decide True && (decide False && A || !(f1 == x1 && (f2 == x2 && (f3 == x3 && f4 == x4)))))) = false := by
 simp only [decide_true, decide_false, Bool.true_and, Bool.false_and, Bool.false_or, Bool.not_not]
 exact Bool.eq_false_iff.2 fun k => h (by simpa only [Bool.and_eq_true, beq_iff_eq] using k)
theorem okW : IPz 16 pW leW Ni := by
 refine cWok.loopK muW false 9216 [(38, e38)] ⟨_, _, _, Tryd.func16, rfl, rfl⟩ ?_
 go_invoke
 refine enK rfl ?_
 intro φ l ρ b hb q0 hq0 q1 hq1 q2 hq2 q3 hq3 L L2 n hn i hi hp hφ hSS _
 obtain ⟨p0, p1, p2, p3, p4, p5⟩ := hp
 replace p0 : L = L2 := p0
 subst p0
 replace p1 : rowsOK clK (dc L) := p1
 simp only [ewY, seval] at p2 p3 p4 p5
 by_cases c : i < n
 ·have k1 : i.toNat - 1 = (i - 1).toNat := by omega
  have k2 : i > 0 -> 0 < i.toNat := by omega
  have k3 : ¬ i > 0 -> ¬ 0 < i.toNat := by omega
  obtain ⟨r, er, hr, _, _⟩ := AK p1 p3 (by omega : i < ((dc L).length : Int))
  obtain ⟨f0, r1, rfl, a0, hr⟩ := Aa hr
  obtain ⟨f1, r1, rfl, a1, hr⟩ := Aa hr
  obtain ⟨f2, r1, rfl, a2, hr⟩ := Aa hr
  obtain ⟨f3, r1, rfl, a3, hr⟩ := Aa hr
  obtain ⟨f4, r1, rfl, a4, hr⟩ := Aa hr
  obtain rfl := Ba hr
  simp only [AH] at a0 a1 a2 a3 a4
  have z := ok38.2 [f1, f2, f3, f4, q0, q1, q2, q3] ⟨a1, a2, a3, a4, hq0, hq1, hq2, hq3, trivial⟩ trivial
  have z : [IntKind.u64.wrap (e38.fn 0 [f1, f2, f3, f4, q0, q1, q2, q3]), IntKind.u64.wrap (e38.fn 1 [f1, f2, f3, f4, q0, q1, q2, q3]), IntKind.u64.wrap (e38.fn 2 [f1, f2, f3, f4, q0, q1, q2, q3]), IntKind.u64.wrap (e38.fn 3 [f1, f2, f3, f4, q0, q1, q2, q3])] = [bitsI .andNot .u64 f1 q0, bitsI .andNot .u64 f2 q1, bitsI .andNot .u64 f3 q2, bitsI .andNot .u64 f4 q3] := z
  simp only [List.cons.injEq, and_true] at z
  obtain ⟨z0, z1, z2, z3⟩ := z
  obtain ⟨x1, hx1⟩ : ∃ x, bitsI .andNot .u64 f1 q0 = x := ⟨_, rfl⟩
  obtain ⟨x2, hx2⟩ : ∃ x, bitsI .andNot .u64 f2 q1 = x := ⟨_, rfl⟩
  obtain ⟨x3, hx3⟩ : ∃ x, bitsI .andNot .u64 f3 q2 = x := ⟨_, rfl⟩
  obtain ⟨x4, hx4⟩ : ∃ x, bitsI .andNot .u64 f4 q3 = x := ⟨_, rfl⟩
  rw [hx1] at z0
  rw [hx2] at z1
  rw [hx3] at z2
  rw [hx4] at z3
  have w1 : IntKind.i64.wrap (i - 1) = i - 1 := i64w (by omega) (by omega)
  have w2 : IntKind.i64.wrap (i + 1) = i + 1 := i64w (by omega) (by omega)
  have hz : (List.zipWith (bitsI .andNot .u64) [f1, f2, f3, f4] [q0, q1, q2, q3] : List Int) = [x1, x2, x3, x4] := by rw [<- hx1, <- hx2, <- hx3, <- hx4]; rfl
  have y0 : e38.pre [f1, f2, f3, f4, q0, q1, q2, q3] := trivial
  have hil : i.toNat < (dc L).length := by omega
  have yp : lbW.ent.pre [b, q0, q1, q2, q3, L, L, n, i + 1] := ⟨rfl, p1, p2, by show 0 <= i + 1; omega, by show i + 1 <= n; omega, p5⟩
  have ym : muW [b, q0, q1, q2, q3, L, L, n, i + 1] < muW [b, q0, q1, q2, q3, L, L, n, i] := by show (n - (i + 1)).toNat < (n - i).toNat; omega
  have ih := hφ [b, q0, q1, q2, q3, L, L, n, i + 1] ⟨hb, hq0, hq1, hq2, hq3, rfl, rfl, hn, w2, trivial⟩ yp ym
  obtain ⟨v0, hv0⟩ : ∃ v, K.b.norm (φ 0 [b, q0, q1, q2, q3, L, L, n, i + 1]) = v := ⟨_, rfl⟩
  obtain ⟨v1, hv1⟩ : ∃ v, K.b.norm (φ 1 [b, q0, q1, q2, q3, L, L, n, i + 1]) = v := ⟨_, rfl⟩
  have ih : (v0 = 1 /\ ∀ j : Nat, (i + 1).toNat <= j -> j < (dc L).length -> rowG (dc L) [q0, q1, q2, q3] j) \/ (v0 = 0 /\ v1 = 0 /\ ∃ j : Nat, j < (dc L).length /\ ¬ rowG (dc L) [q0, q1, q2, q3] j) := by rw [<- hv0, <- hv1]; exact ih
  have fin : ∀ (C : Prop) [Decidable C] (E : Bool), (C ↔ rowG (dc L) [q0, q1, q2, q3] i.toNat) -> (¬ C -> E = false) -> Ni [b, q0, q1, q2, q3, L, L, n, i] [if C /\ i2b v0 = true then 1 else 0, if C /\ i2b v0 = true then v1 else b2i (E && i2b v1)] := fun C _ E hC hE => by
   rcases ih with ⟨rfl, g⟩ | ⟨rfl, rfl, g⟩
   ·by_cases h : C
    ·rw [if_pos ⟨h, rfl⟩]
     refine Or.inl ⟨rfl, fun j (j1 : i.toNat <= j) j2 => ?_⟩
     rcases (show j = i.toNat \/ (i + 1).toNat <= j by omega) with rfl | j3
     ·exact hC.1 h
     ·exact g j j3 j2
    ·rw [if_neg fun hh => h hh.1, if_neg fun hh => h hh.1, hE h]
     exact Or.inr ⟨rfl, rfl, i.toNat, hil, fun hh => h (hC.2 hh)⟩
   ·have h0 : ¬ (C /\ i2b 0 = true) := fun hh => by cases hh.2
    rw [if_neg h0, if_neg h0]
    refine Or.inr ⟨rfl, ?_, g⟩
    show b2i (E && i2b 0) = 0
    cases E <;> rfl
  by_cases c0 : i > 0
  ·obtain ⟨r, er', hr, _, _⟩ := AK p1 (by omega : 0 <= i - 1) (by omega : i - 1 < ((dc L).length : Int))
   obtain ⟨g0, r1, rfl, b0, hr⟩ := Aa hr
   obtain ⟨g1, r1, rfl, b1, hr⟩ := Aa hr
   obtain ⟨g2, r1, rfl, b2, hr⟩ := Aa hr
   obtain ⟨g3, r1, rfl, b3, hr⟩ := Aa hr
   obtain ⟨g4, r1, rfl, b4, hr⟩ := Aa hr
   obtain rfl := Ba hr
   simp only [AH] at b0 b1 b2 b3 b4
   have hG : ((g0 < f0 /\ (g1 = f1 -> g2 = f2 -> g3 = f3 -> ¬g4 = f4)) /\ f1 = x1 /\ f2 = x2 /\ f3 = x3 /\ f4 = x4) ↔ rowG (dc L) [q0, q1, q2, q3] i.toNat := by
    unfold rowG
    rw [er, k1, er']
    simp only [List.drop_succ_cons, List.drop_zero, hz, List.cons.injEq, and_true, ne_eq, List.getD_cons_zero]
    constructor
    ·rintro ⟨⟨h1, h2⟩, h3⟩
     exact ⟨fun _ => ⟨h1, fun h => h2 h.1 h.2.1 h.2.2.1 h.2.2.2⟩, h3⟩
    ·rintro ⟨h1, h3⟩
     obtain ⟨h4, h5⟩ := h1 (k2 c0)
     exact ⟨⟨h4, fun k1 k2 k3 k4 => h5 ⟨k1, k2, k3, k4⟩⟩, h3⟩
   refine ⟨?_, ?_⟩
   ·simp (disch := omega) only [ewZ, reduceCtorEq, seval, hSS, c, c0, er, er', a0, a1, a2, a3, a4, b0, b1, b2, b3, b4, w1, w2, z0, z1, z2, z3]
    exact ⟨⟨⟨p3, by omega⟩, ⟨by omega, by omega⟩, ⟨by omega, by omega⟩, fun _ => ⟨by omega, by omega⟩, fun _ => ⟨by omega, by omega⟩, fun _ => y0⟩, fun _ => ⟨yp, ym⟩⟩
   ·simp (disch := omega) only [ewZ, reduceCtorEq, seval, hSS, c, c0, er, er', a0, a1, a2, a3, a4, b0, b1, b2, b3, b4, w1, w2, z0, z1, z2, z3, hv0, hv1]
    exact fin _ _ hG fun h => by
     exact bw1 h
  ·have hG : (f1 = x1 /\ f2 = x2 /\ f3 = x3 /\ f4 = x4) ↔ rowG (dc L) [q0, q1, q2, q3] i.toNat := by
    unfold rowG
    rw [er]
    simp only [List.drop_succ_cons, List.drop_zero, hz, List.cons.injEq, and_true]
    exact ⟨fun h => ⟨fun h' => absurd h' (k3 c0), h⟩, fun h => h.2⟩
   refine ⟨?_, ?_⟩
   ·simp (disch := omega) only [ewZ, reduceCtorEq, seval, hSS, c, c0, er, a0, a1, a2, a3, a4, w1, w2, z0, z1, z2, z3]
    exact ⟨⟨⟨p3, by omega⟩, y0⟩, fun _ => ⟨yp, ym⟩⟩
   ·simp (disch := omega) only [ewZ, reduceCtorEq, seval, hSS, c, c0, er, a0, a1, a2, a3, a4, w1, w2, z0, z1, z2, z3, hv0, hv1]
    exact fin _ _ hG fun h => by
     exact bw2 _ h
 ·refine ⟨?_, ?_⟩ <;> simp (disch := omega) only [ewZ, reduceCtorEq, seval, hSS, c]
  ·refine Or.inl ⟨rfl, fun j (h1 : i.toNat <= j) h2 => ?_⟩
   have h2 : j < (dc L).length := h2
   omega
def belR (R : RL) (v : Int) : RL := R.filter fun r => decide (r.getD 0 0 <= v)
def selR (R : RL) (v : Int) : List Int := (lstR (belR R v)).drop 1
theorem KB {R S : RL} {j : Nat} (h : j < R.length) : (R ++ S).getD j [] = R.getD j [] := by
 rw [List.getD_eq_getElem?_getD, List.getD_eq_getElem?_getD, List.getElem?_append_left h]
theorem TC {R : RL} (r : List Int) : (R ++ [r]).getD R.length [] = r := by
 rw [List.getD_eq_getElem?_getD, List.getElem?_append_right (Nat.le_refl _), Nat.sub_self]; rfl
theorem Jo (R : RL) (r : List Int) : lstR (R ++ [r]) = r := by
 unfold lstR
 rw [List.getD_eq_getElem?_getD, List.length_append, List.length_singleton, Nat.add_sub_cancel, List.getElem?_append_right (Nat.le_refl _), Nat.sub_self]; rfl
theorem PD (A : List RL) (o : RL) (b : List Int) (y : Int) : mrgF A o (b ++ [y]) = addC A (mrgF A o b) y := by
 unfold mrgF; rw [List.foldl_append]; rfl
structure Mrg (A : List RL) (b : List Int) (R : RL) : Prop where
 rows : ∀ r ∈ R, ∃ x ∈ b, r = x :: setF A x 0 z4
 inc : R.Pairwise fun p q => p.getD 0 0 < q.getD 0 0
 hd : b ≠ [] -> R ≠ [] /\ (R.getD 0 []).getD 0 0 = b.getD 0 0
 lst : ∀ y, b.getLast? = some y -> (lstR R).drop 1 = setF A y 0 z4
 sel : ∀ x ∈ b, belR R x ≠ [] /\ selR R x = setF A x 0 z4
 dif : ∀ j, j + 1 < R.length -> (R.getD j []).drop 1 ≠ (R.getD (j + 1) []).drop 1
 len : R.length <= b.length
theorem KC {R : RL} {v : Int} (h : ∀ r ∈ R, r.getD 0 0 <= v) : belR R v = R := List.filter_eq_self.2 fun r hr => by simpa using h r hr
theorem KD (A : List RL) : ∀ (n : Nat) (b : List Int), b.length = n -> b.Pairwise (fun x y => x < y) -> Mrg A b (mrgF A [] b) := by
 intro n
 induction n with
 | zero =>
   intro b hb _
   obtain rfl := List.eq_nil_of_length_eq_zero hb
   exact ⟨fun r hr => (by cases hr), List.Pairwise.nil, fun h => absurd rfl h, fun y hy => (by cases hy), fun x hx => (by cases hx), fun j hj => (by simp [mrgF] at hj), Nat.le_refl _⟩
 | succ n ih =>
   intro b hb hp
   obtain ⟨b', y, rfl⟩ : ∃ b' y, b = b' ++ [y] := ⟨b.dropLast, b.getLast (by intro h; simp [h] at hb), (List.dropLast_concat_getLast _).symm⟩
   rw [List.pairwise_append] at hp
   obtain ⟨hp1, _, hp2⟩ := hp
   have hlt : ∀ x ∈ b', x < y := fun x hx => hp2 x hx y (List.mem_singleton.2 rfl)
   have ih := ih b' (by simpa using hb) hp1
   rw [PD]
   obtain ⟨R, hR⟩ : ∃ R, mrgF A [] b' = R := ⟨_, rfl⟩
   rw [hR] at ih ⊢
   have hle : ∀ r ∈ R, r.getD 0 0 < y := fun r hr => by
    obtain ⟨x, hx, rfl⟩ := ih.rows r hr
    exact hlt x hx
   unfold addC
   by_cases c : R.length = 0 \/ (lstR R).drop 1 ≠ setF A y 0 z4
   ·rw [if_pos c]
    refine ⟨fun r hr => ?_, ?_, fun _ => ⟨by simp, ?_⟩, fun z hz => ?_, fun x hx => ?_, fun j hj => ?_, ?_⟩
    ·rcases List.mem_append.1 hr with hr | hr
     ·obtain ⟨x, hx, e⟩ := ih.rows r hr
      exact ⟨x, List.mem_append_left _ hx, e⟩
     ·obtain rfl := List.mem_singleton.1 hr
      exact ⟨y, by simp, rfl⟩
    ·rw [List.pairwise_append]
     refine ⟨ih.inc, List.pairwise_singleton _ _, fun p hp q hq => ?_⟩
     obtain rfl := List.mem_singleton.1 hq
     exact hle p hp
    ·cases b' with
     | nil =>
       have : R = [] := by rw [<- hR]; rfl
       subst this; rfl
     | cons x b'' =>
       obtain ⟨h1, h2⟩ := ih.hd (by simp)
       cases R with
       | nil => exact absurd rfl h1
       | cons r R' => simpa using h2
    ·rw [List.getLast?_append] at hz
     simp at hz
     subst hz
     rw [Jo]; rfl
    ·have hyy : belR (R ++ [y :: setF A y 0 z4]) y = R ++ [y :: setF A y 0 z4] := KC fun r hr => by
      rcases List.mem_append.1 hr with hr | hr
      ·exact Int.le_of_lt (hle r hr)
      ·obtain rfl := List.mem_singleton.1 hr
       exact Int.le_refl _
     rcases List.mem_append.1 hx with hx | hx
     ·have := ih.sel x hx
      have hxy := hlt x hx
      have e : belR (R ++ [y :: setF A y 0 z4]) x = belR R x := by
       unfold belR
       rw [List.filter_append]
       simp [show ¬ y <= x by omega]
      unfold selR
      rw [e]
      exact this
     ·obtain rfl := List.mem_singleton.1 hx
      unfold selR
      rw [hyy, Jo]
      exact ⟨by simp, rfl⟩
    ·rw [List.length_append, List.length_singleton] at hj
     by_cases hj2 : j + 1 < R.length
     ·have := ih.dif j hj2
      rwa [KB (by omega), KB (by omega)]
     ·have hj3 : j + 1 = R.length := by omega
      rw [KB (by omega), hj3, TC]
      rcases c with c | c
      ·omega
      ·have : R.getD j [] = lstR R := by unfold lstR; rw [<- hj3]; rfl
       rw [this]
       exact c
    ·simp; exact ih.len
   ·rw [if_neg c]
    have c1 : R.length ≠ 0 := fun h => c (Or.inl h)
    have c2 : (lstR R).drop 1 = setF A y 0 z4 := Classical.byContradiction fun h => c (Or.inr h)
    have hb' : b' ≠ [] := fun h => by subst h; apply c1; rw [<- hR]; rfl
    refine ⟨fun r hr => ?_, ih.inc, fun _ => ⟨(ih.hd hb').1, ?_⟩, fun z hz => ?_, fun x hx => ?_, ih.dif, ?_⟩
    ·obtain ⟨x, hx, e⟩ := ih.rows r hr
     exact ⟨x, List.mem_append_left _ hx, e⟩
    ·cases b' with
     | nil => exact absurd rfl hb'
     | cons x b'' => simpa using (ih.hd hb').2
    ·rw [List.getLast?_append] at hz
     simp at hz
     subst hz
     exact c2
    ·rcases List.mem_append.1 hx with hx | hx
     ·exact ih.sel x hx
     ·obtain rfl := List.mem_singleton.1 hx
      unfold selR
      rw [KC fun r hr => Int.le_of_lt (hle r hr)]
      exact ⟨fun h => c1 (by rw [h]; rfl), c2⟩
    ·simp; have := ih.len; omega
theorem TD {t : Int} {q : RL} {x v : Int} (hxv : x <= v) (hv : v <= t) (h1 : ∀ r ∈ q, r.getD 0 0 <= v -> r.getD 0 0 <= x) (h2 : ∀ r ∈ q, r.getD 1 0 < t -> ¬ (x < r.getD 1 0 + 1 /\ r.getD 1 0 + 1 <= v)) : inS q v = inS q x := by
 unfold inS
 induction q with
 | nil => rfl
 | cons r q ih =>
   rw [List.any_cons, List.any_cons, ih (fun r hr => h1 r (List.mem_cons_of_mem _ hr)) fun r hr => h2 r (List.mem_cons_of_mem _ hr)]
   have a1 := h1 r (List.mem_cons_self ..)
   have a2 := h2 r (List.mem_cons_self ..)
   have : inR v r = inR x r := by
    unfold inR
    rw [show decide (r.getD 0 0 <= v) = decide (r.getD 0 0 <= x) from decide_eq_decide.2 ⟨a1, fun h => by omega⟩,
     show decide (v <= r.getD 1 0) = decide (x <= r.getD 1 0) from decide_eq_decide.2 ⟨fun h => by omega, fun h => Classical.byContradiction fun h' => a2 (by omega) (by omega)⟩]
   rw [this]
theorem LS {v x : Int} : ∀ (A : List RL) (j : Nat) (s : List Int), (∀ q ∈ A, inS q v = inS q x) -> setF A v j s = setF A x j s
 | [], _, _, _ => rfl
 | q :: A, j, s, h => by
   show setF A v (j + 1) (if inS q v = true then orB j s else s) = setF A x (j + 1) (if inS q x = true then orB j s else s)
   rw [h q (List.mem_cons_self ..), LS A (j + 1) _ fun q hq => h q (List.mem_cons_of_mem _ hq)]
theorem Jp (v : Int) : ∀ (b : List Int), (∃ x ∈ b, x <= v) -> ∃ x ∈ b, x <= v /\ ∀ y ∈ b, y <= v -> y <= x
 | [], h => by obtain ⟨x, hx, _⟩ := h; cases hx
 | y :: b, h => by
   by_cases c : ∃ x ∈ b, x <= v
   ·obtain ⟨x, h1, h2, h3⟩ := Jp v b c
    by_cases d : y <= v /\ x < y
    ·exact ⟨y, List.mem_cons_self .., d.1, fun z hz hzv => by
      rcases List.mem_cons.1 hz with rfl | hz
      ·exact Int.le_refl _
      ·have := h3 z hz hzv; omega⟩
    ·exact ⟨x, List.mem_cons_of_mem _ h1, h2, fun z hz hzv => by
      rcases List.mem_cons.1 hz with rfl | hz
      ·exact Classical.byContradiction fun h => d ⟨hzv, by omega⟩
      ·exact h3 z hz hzv⟩
   ·obtain ⟨x, h1, h2⟩ := h
    rcases List.mem_cons.1 h1 with rfl | h1
    ·exact ⟨x, List.mem_cons_self .., h2, fun z hz hzv => by
      rcases List.mem_cons.1 hz with rfl | hz
      ·exact Int.le_refl _
      ·exact absurd ⟨z, hz, hzv⟩ c⟩
    ·exact absurd ⟨x, h1, h2⟩ c
theorem LU {t : Int} {A : List RL} {b : List Int} (hb : brdP t A.flatten b) {q : RL} (hq : q ∈ A) {r : List Int} (hr : r ∈ q) : r.getD 0 0 ∈ b /\ (r.getD 1 0 < t -> r.getD 1 0 + 1 ∈ b) := by
 have hm : r ∈ A.flatten := List.mem_flatten.2 ⟨q, hq, hr⟩
 have hs : ∀ x, [x] ∈ brR t r -> x ∈ b := fun x hx => (hb.2.1 x).2 (List.mem_cons_of_mem _ (List.mem_flatMap.2 ⟨r, hm, hx⟩))
 refine ⟨hs _ (List.mem_cons_self ..), fun h => hs _ ?_⟩
 unfold brR
 rw [if_pos h]
 exact List.mem_cons_of_mem _ (List.mem_cons_self ..)
theorem SO {t : Int} {A : List RL} {b : List Int} (hb : brdP t A.flatten b) {v : Int} (h0 : 0 <= v) (h1 : v <= t) :
 belR (mrgF A [] b) v ≠ [] /\ selR (mrgF A [] b) v = setF A v 0 z4 := by
 have hM := KD A _ b rfl hb.1
 obtain ⟨x, hx, hxv, hmax⟩ := Jp v b ⟨0, (hb.2.1 0).2 (List.mem_cons_self ..), h0⟩
 have e1 : setF A v 0 z4 = setF A x 0 z4 := LS A 0 z4 fun q hq => TD hxv h1 (fun r hr h => hmax _ (LU hb hq hr).1 h) fun r hr h h' => by
  have := hmax _ ((LU hb hq hr).2 h) h'.2
  omega
 have e2 : belR (mrgF A [] b) v = belR (mrgF A [] b) x := by
  unfold belR
  refine List.filter_congr fun r hr => ?_
  obtain ⟨y, hy, rfl⟩ := hM.rows r hr
  refine decide_eq_decide.2 ⟨fun h => hmax y hy h, fun h => ?_⟩
  have h : y <= x := h
  show y <= v
  omega
 have := hM.sel x hx
 unfold selR
 rw [e1, e2]
 exact this
theorem Io {x y : Int} (hx : IntKind.u64.wrap x = x) (hy : IntKind.u64.wrap y = y) : bitsI .and .u64 x y = ((x.toNat &&& y.toNat : Nat) : Int) := by
 rw [IntKind.wrap_u64] at hx hy
 have h : x.toNat &&& y.toNat < 2 ^ 64 := Nat.lt_of_le_of_lt Nat.and_le_left (by omega)
 have e1 : (BitVec.ofInt 64 x).toNat = x.toNat := by rw [BitVec.toNat_ofInt]; omega
 have e2 : (BitVec.ofInt 64 y).toNat = y.toNat := by rw [BitVec.toNat_ofInt]; omega
 show IntKind.u64.wrap ((BitVec.ofInt 64 x &&& BitVec.ofInt 64 y).toNat : Int) = _
 rw [BitVec.toNat_and, e1, e2, IntKind.wrap_u64]
 omega
theorem or64 {x y : Int} (hx : IntKind.u64.wrap x = x) (hy : IntKind.u64.wrap y = y) : bitsI .or .u64 x y = ((x.toNat ||| y.toNat : Nat) : Int) := by
 rw [IntKind.wrap_u64] at hx hy
 have h : x.toNat ||| y.toNat < 2 ^ 64 := Nat.or_lt_two_pow (by omega) (by omega)
 have e1 : (BitVec.ofInt 64 x).toNat = x.toNat := by rw [BitVec.toNat_ofInt]; omega
 have e2 : (BitVec.ofInt 64 y).toNat = y.toNat := by rw [BitVec.toNat_ofInt]; omega
 show IntKind.u64.wrap ((BitVec.ofInt 64 x ||| BitVec.ofInt 64 y).toNat : Int) = _
 rw [BitVec.toNat_or, e1, e2, IntKind.wrap_u64]
 omega
theorem RJ (j : Nat) : ∃ P : Nat, 2 ^ (j % 64) = P /\ (2 : Int) ^ (j % 64) = (P : Int) /\ P <= 9223372036854775808 /\ (P : Int).toNat = P /\ IntKind.u64.wrap (P : Int) = P := by
 have h2 : 2 ^ (j % 64) <= 2 ^ 63 := Nat.pow_le_pow_right (by omega) (by omega)
 obtain ⟨P, hP⟩ : ∃ P, 2 ^ (j % 64) = P := ⟨_, rfl⟩
 refine ⟨P, hP, by rw [<- hP, Int.natCast_pow]; rfl, by omega, Int.toNat_natCast _, ?_⟩
 rw [IntKind.wrap_u64]
 omega
def setOK (s : List Int) : Prop := s.length = 4 /\ ∀ x ∈ s, IntKind.u64.wrap x = x
def bitS (s : List Int) (j : Nat) : Bool := (s.getD (j / 64) 0).toNat.testBit (j % 64)
theorem setOK.at {s : List Int} (h : setOK s) (i : Nat) : IntKind.u64.wrap (s.getD i 0) = s.getD i 0 := by
 by_cases c : i < s.length
 ·have e : s.getD i 0 = s[i] := by simp [List.getD, c]
  rw [e]; exact h.2 _ (List.getElem_mem c)
 ·have e : s.getD i 0 = 0 := by simp [List.getD, c]
  rw [e]; rfl
theorem setOK.orb {s : List Int} (h : setOK s) (j : Nat) : setOK (orB j s) := by
 refine ⟨by unfold orB; rw [List.length_set]; exact h.1, fun x hx => ?_⟩
 rcases List.mem_or_eq_of_mem_set hx with hx | rfl
 ·exact h.2 x hx
 ·obtain ⟨P, h1, h2, h3, h4, h5⟩ := RJ j
  rw [h2, or64 (h.at _) h5, h4]
  have h1 := h.at (j / 64)
  rw [IntKind.wrap_u64] at h1
  have : (s.getD (j / 64) 0).toNat ||| P < 2 ^ 64 := Nat.or_lt_two_pow (by omega) (by omega)
  rw [IntKind.wrap_u64]
  omega
theorem Fp {s : List Int} (h : setOK s) {j : Nat} (hj : j < 256) (i : Nat) : bitS (orB j s) i = (decide (i = j) || bitS s i) := by
 have h4 := h.1
 unfold bitS orB
 by_cases c : i / 64 = j / 64
 ·have e : (s.set (j / 64) (bitsI .or .u64 (s.getD (j / 64) 0) (2 ^ (j % 64)))).getD (i / 64) 0 = bitsI .or .u64 (s.getD (j / 64) 0) (2 ^ (j % 64)) := by
   rw [c, List.getD_eq_getElem?_getD, List.getElem?_set_self (by omega)]; rfl
  obtain ⟨P, h1, h2, h3, h4, h5⟩ := RJ j
  rw [e, h2, or64 (h.at _) h5, c, h4, Int.toNat_natCast, Nat.testBit_or, <- h1, Nat.testBit_two_pow, Bool.or_comm]
  congr 1
  exact decide_eq_decide.2 ⟨fun h => by omega, fun h => by omega⟩
 ·have e : (s.set (j / 64) (bitsI .or .u64 (s.getD (j / 64) 0) (2 ^ (j % 64)))).getD (i / 64) 0 = s.getD (i / 64) 0 := by
   rw [List.getD_eq_getElem?_getD, List.getElem?_set_ne (by omega), List.getD_eq_getElem?_getD]
  rw [e, show decide (i = j) = false from decide_eq_false fun h => c (by rw [h]), Bool.false_or]
theorem Nj : setOK z4 := ⟨rfl, fun x hx => by
 simp only [z4, List.mem_cons, List.not_mem_nil, or_false] at hx
 rcases hx with rfl | rfl | rfl | rfl <;> rfl⟩
theorem IJ (j : Nat) : bitS z4 j = false := by
 have : ∀ i, z4.getD i 0 = 0 := fun i => by
  match i with
  | 0 | 1 | 2 | 3 => rfl
  | n + 4 => rfl
 unfold bitS; rw [this]; simp
theorem Jq (v : Int) : ∀ (A : List RL) (k : Nat) (s : List Int), setOK s -> k + A.length <= 256 -> setOK (setF A v k s) /\ ∀ i, bitS (setF A v k s) i = (bitS s i || (decide (k <= i) && inS (A.getD (i - k) []) v))
 | [], k, s, h, _ => ⟨h, fun i => by
  have : inS (([] : List RL).getD (i - k) []) v = false := rfl
  rw [this, Bool.and_false, Bool.or_false]; rfl⟩
 | q :: A, k, s, h, hk => by
   rw [List.length_cons] at hk
   have hs' : setOK (if inS q v = true then orB k s else s) := by split; exact h.orb k; exact h
   obtain ⟨h1, h2⟩ := Jq v A (k + 1) (if inS q v = true then orB k s else s) hs' (by omega)
   refine ⟨h1, fun i => ?_⟩
   show bitS (setF A v (k + 1) (if inS q v = true then orB k s else s)) i = _
   rw [h2 i]
   have e : bitS (if inS q v = true then orB k s else s) i = ((decide (i = k) && inS q v) || bitS s i) := by
    by_cases c : inS q v = true
    ·rw [if_pos c, Fp h (by omega), c, Bool.and_true]
    ·rw [if_neg c, Bool.eq_false_iff.2 c, Bool.and_false, Bool.false_or]
   rw [e]
   by_cases c1 : i = k
   ·subst c1
    simp [List.getD_cons_zero, Bool.or_comm, show ¬ i + 1 <= i by omega]
   ·by_cases c2 : k <= i
    ·rw [show i - k = (i - (k + 1)) + 1 by omega, List.getD_cons_succ]
     simp [c1, c2, show k + 1 <= i by omega]
    ·simp [c1, c2, show ¬ k + 1 <= i by omega]
def insU (x : Int) : List Int -> List Int
 | [] => [x]
 | y :: l => if x < y then x :: y :: l else if x = y then y :: l else y :: insU x l
def srtU (l : List Int) : List Int := l.foldr insU []
theorem Hi (x z : Int) : ∀ l : List Int, z ∈ insU x l ↔ z = x \/ z ∈ l
 | [] => by simp [insU]
 | y :: l => by
   unfold insU
   split
   ·simp
   ·split
    ·rename_i h; subst h; simp
    ·rw [List.mem_cons, Hi x z l, List.mem_cons]
     constructor
     ·rintro (h | h | h)
      ·exact Or.inr (Or.inl h)
      ·exact Or.inl h
      ·exact Or.inr (Or.inr h)
     ·rintro (h | h | h)
      ·exact Or.inr (Or.inl h)
      ·exact Or.inl h
      ·exact Or.inr (Or.inr h)
theorem LW (x : Int) : ∀ l : List Int, l.Pairwise (fun a b => a < b) -> (insU x l).Pairwise fun a b => a < b
 | [], _ => List.pairwise_singleton _ _
 | y :: l, h => by
   obtain ⟨h1, h2⟩ := List.pairwise_cons.1 h
   unfold insU
   split
   ·rename_i c
    exact List.pairwise_cons.2 ⟨fun z hz => by
     rcases List.mem_cons.1 hz with rfl | hz
     ·exact c
     ·have := h1 z hz; omega, h⟩
   ·split
    ·exact h
    ·exact List.pairwise_cons.2 ⟨fun z hz => by
      rcases (Hi x z l).1 hz with rfl | hz
      ·omega
      ·exact h1 z hz, LW x l h2⟩
theorem KE (z : Int) : ∀ l : List Int, z ∈ srtU l ↔ z ∈ l
 | [] => Iff.rfl
 | y :: l => by
   show z ∈ insU y (srtU l) ↔ _
   rw [Hi, KE z l, List.mem_cons]
theorem LX : ∀ l : List Int, (srtU l).Pairwise fun a b => a < b
 | [] => List.Pairwise.nil
 | y :: l => LW y _ (LX l)
theorem IK : ∀ v w : List Int, v.Pairwise (fun a b => a < b) -> w.Pairwise (fun a b => a < b) -> (∀ x, x ∈ v ↔ x ∈ w) -> v = w
 | [], [], _, _, _ => rfl
 | [], y :: w, _, _, h => by have := (h y).2 (List.mem_cons_self ..); cases this
 | x :: v, [], _, _, h => by have := (h x).1 (List.mem_cons_self ..); cases this
 | x :: v, y :: w, hv, hw, h => by
   obtain ⟨a1, a2⟩ := List.pairwise_cons.1 hv
   obtain ⟨b1, b2⟩ := List.pairwise_cons.1 hw
   have e : x = y := by
    rcases List.mem_cons.1 ((h x).1 (List.mem_cons_self ..)) with e | e
    ·exact e
    ·rcases List.mem_cons.1 ((h y).2 (List.mem_cons_self ..)) with e' | e'
     ·exact e'.symm
     ·have := b1 x e; have := a1 y e'; omega
   subst e
   rw [IK v w a2 b2 fun z => ⟨fun hz => by
    rcases List.mem_cons.1 ((h z).1 (List.mem_cons_of_mem _ hz)) with rfl | hz'
    ·have := a1 _ hz; omega
    ·exact hz', fun hz => by
    rcases List.mem_cons.1 ((h z).2 (List.mem_cons_of_mem _ hz)) with rfl | hz'
    ·have := b1 _ hz; omega
    ·exact hz'⟩]
def brdF (t : Int) (l : RL) : List Int := srtU (0 :: l.flatMap fun r => r.getD 0 0 :: (if r.getD 1 0 < t then [r.getD 1 0 + 1] else []))
theorem Rc {t : Int} {l : RL} {v : List Int} (h : brdP t l v) : v = brdF t l := by
 refine IK v _ h.1 (LX _) fun x => ?_
 rw [h.2.1 x]
 unfold brdF brL
 rw [KE, List.mem_cons, List.mem_cons, List.mem_flatMap, List.mem_flatMap]
 refine or_congr ⟨fun h => by simpa using h, fun h => by rw [h]⟩ ⟨?_, ?_⟩
 ·rintro ⟨r, hr, hx⟩
  refine ⟨r, hr, ?_⟩
  unfold brR at hx
  rcases List.mem_cons.1 hx with hx | hx
  ·simp only [List.cons.injEq, and_true] at hx; subst hx; exact List.mem_cons_self ..
  ·split at hx
   ·rename_i c
    rw [if_pos c]
    simp only [List.mem_singleton, List.cons.injEq, and_true] at hx
    subst hx; exact List.mem_cons_of_mem _ (List.mem_cons_self ..)
   ·cases hx
 ·rintro ⟨r, hr, hx⟩
  refine ⟨r, hr, ?_⟩
  unfold brR
  rcases List.mem_cons.1 hx with hx | hx
  ·subst hx; exact List.mem_cons_self ..
  ·split at hx
   ·rename_i c
    rw [if_pos c]
    obtain rfl := List.mem_singleton.1 hx
    exact List.mem_cons_of_mem _ (List.mem_cons_self ..)
   ·cases hx
theorem PE {x y : Int} (hx : IntKind.u64.wrap x = x) (hy : IntKind.u64.wrap y = y) : IntKind.u64.wrap (bitsI .andNot .u64 x y) = bitsI .andNot .u64 x y /\ 0 <= bitsI .andNot .u64 x y /\ ∀ i, i < 64 -> (bitsI .andNot .u64 x y).toNat.testBit i = (x.toNat.testBit i && !y.toNat.testBit i) := by
 rw [IntKind.wrap_u64] at hx hy
 have e1 : (BitVec.ofInt 64 x).toNat = x.toNat := by rw [BitVec.toNat_ofInt]; omega
 have e2 : (BitVec.ofInt 64 y).toNat = y.toNat := by rw [BitVec.toNat_ofInt]; omega
 obtain ⟨z, hz⟩ : ∃ z, (BitVec.ofInt 64 x &&& ~~~ BitVec.ofInt 64 y) = z := ⟨_, rfl⟩
 have h1 := z.isLt
 have e3 : bitsI .andNot .u64 x y = (z.toNat : Int) := by
  show IntKind.u64.wrap ((BitVec.ofInt 64 x &&& ~~~ BitVec.ofInt 64 y).toNat : Int) = _
  rw [hz, IntKind.wrap_u64]; omega
 refine ⟨by rw [e3, IntKind.wrap_u64]; omega, by rw [e3]; omega, fun i hi => ?_⟩
 rw [e3, Int.toNat_natCast, <- hz, BitVec.toNat_and, BitVec.toNat_not, e1, e2, Nat.testBit_and, show 2 ^ 64 - 1 - y.toNat = 2 ^ 64 - (y.toNat + 1) by omega, Nat.testBit_two_pow_sub_succ (by omega), decide_eq_true hi, Bool.true_and]
theorem SP {x y : Int} (hx : IntKind.u64.wrap x = x) (hy : IntKind.u64.wrap y = y) (h : ∀ i, i < 64 -> x.toNat.testBit i = y.toNat.testBit i) : x = y := by
 rw [IntKind.wrap_u64] at hx hy
 have : x.toNat = y.toNat := Nat.eq_of_testBit_eq fun i => by
  by_cases c : i < 64
  ·exact h i c
  ·have p : 2 ^ 64 <= 2 ^ i := Nat.pow_le_pow_right (by omega) (by omega)
   rw [Nat.testBit_lt_two_pow (by omega), Nat.testBit_lt_two_pow (by omega)]
 omega
theorem GH {s t : List Int} (hs : setOK s) (ht : setOK t) (h : ∀ i, i < 256 -> bitS s i = bitS t i) : s = t := by
 refine List.ext_getElem (hs.1.trans ht.1.symm) fun i h1 h2 => ?_
 have e1 : s.getD i 0 = s[i] := by simp [List.getD, h1]
 have e2 : t.getD i 0 = t[i] := by simp [List.getD, h2]
 rw [<- e1, <- e2]
 refine SP (hs.at i) (ht.at i) fun b hb => ?_
 have h4 := hs.1
 have := h (64 * i + b) (by omega)
 unfold bitS at this
 rwa [show (64 * i + b) / 64 = i by omega, show (64 * i + b) % 64 = b by omega] at this
def wthS (s b : List Int) : List Int := List.zipWith (bitsI .andNot .u64) s b
theorem KF {s b : List Int} (hs : setOK s) (hb : setOK b) : setOK (wthS s b) /\ ∀ i, i < 256 -> bitS (wthS s b) i = (bitS s i && !bitS b i) := by
 have g : ∀ i, i < 4 -> (wthS s b).getD i 0 = bitsI .andNot .u64 (s.getD i 0) (b.getD i 0) := fun i hi => by
  have h1 : i < s.length := by rw [hs.1]; exact hi
  have h2 : i < b.length := by rw [hb.1]; exact hi
  unfold wthS
  simp [List.getD, List.getElem?_zipWith, h1, h2]
 have hl : (wthS s b).length = 4 := by unfold wthS; rw [List.length_zipWith, hs.1, hb.1]; rfl
 refine ⟨⟨hl, fun x hx => ?_⟩, fun i hi => ?_⟩
 ·obtain ⟨i, hi, rfl⟩ := List.getElem_of_mem hx
  have e : (wthS s b).getD i 0 = (wthS s b)[i] := by simp [List.getD, hi]
  rw [<- e, g i (by omega)]
  exact (PE (hs.at i) (hb.at i)).1
 ·unfold bitS
  rw [g _ (by omega)]
  exact (PE (hs.at _) (hb.at _)).2.2 _ (by omega)
def fldR (m : Int) (B : List Int) (L : RL) : Prop := 0 < L.length /\ (L.getD 0 []).getD 0 0 = 0 /\ (L.getD (L.length - 1) []).getD 0 0 <= m /\ ∀ j : Nat, j < L.length -> rowG L B j
def AE (k : Nat) : Int := [1, 2, 4294967295, 4294967295, 65535, 65535, 63].getD k 0
def tabR (xs : List Int) : Prop := 0 <= env xs 0 /\ env xs 0 <= 256 /\ ∀ k : Nat, k < 7 -> fldR (AE k) (beyF (env xs 0).toNat [0, 0, 0, 0]) (dc (env xs (k + 1)))
theorem LY : ∀ (l : List Nat) (s : List Int), setOK s -> (∀ j ∈ l, j < 256) -> setOK (l.foldl (fun s j => orB j s) s) /\ ∀ i, bitS (l.foldl (fun s j => orB j s) s) i = (decide (i ∈ l) || bitS s i)
 | [], s, h, _ => ⟨h, fun i => by simp⟩
 | j :: l, s, h, hl => by
   obtain ⟨h1, h2⟩ := LY l (orB j s) (h.orb j) fun k hk => hl k (List.mem_cons_of_mem _ hk)
   refine ⟨h1, fun i => ?_⟩
   show bitS (l.foldl (fun s j => orB j s) (orB j s)) i = _
   rw [h2 i, Fp h (hl j (List.mem_cons_self ..))]
   by_cases c : i = j
   ·subst c; simp
   ·simp [c]
theorem KG (n : Nat) : setOK (beyF n z4) /\ ∀ i, i < 256 -> bitS (beyF n z4) i = decide (n <= i) := by
 obtain ⟨h1, h2⟩ := LY ((List.range 256).drop n) z4 Nj fun j hj => List.mem_range.1 (List.mem_of_mem_drop hj)
 refine ⟨h1, fun i hi => ?_⟩
 unfold beyF
 rw [h2 i, IJ, Bool.or_false]
 refine decide_eq_decide.2 ⟨fun h => ?_, fun h => ?_⟩
 ·obtain ⟨k, hk, e⟩ := List.getElem_of_mem h
  rw [List.getElem_drop, List.getElem_range] at e
  omega
 ·have : i = ((List.range 256).drop n)[i - n]'(by simp; omega) := by rw [List.getElem_drop, List.getElem_range]; omega
  rw [this]
  exact List.getElem_mem _
theorem CI {A : List RL} (hl : A.length <= 256) (v : Int) : setOK (setF A v 0 z4) /\ (∀ i, bitS (setF A v 0 z4) i = inS (A.getD i []) v) /\ setF A v 0 z4 = wthS (setF A v 0 z4) (beyF A.length z4) := by
 obtain ⟨h1, h2⟩ := Jq v A 0 z4 Nj (by omega)
 have h3 : ∀ i, bitS (setF A v 0 z4) i = inS (A.getD i []) v := fun i => by
  rw [h2 i, IJ, Bool.false_or, Nat.sub_zero, decide_eq_true (Nat.zero_le _), Bool.true_and]
 obtain ⟨b1, b2⟩ := KG A.length
 obtain ⟨w1, w2⟩ := KF h1 b1
 refine ⟨h1, h3, GH h1 w1 fun i hi => ?_⟩
 rw [w2 i hi, b2 i hi, h3 i]
 by_cases c : A.length <= i
 ·have : A.getD i [] = [] := by rw [List.getD_eq_getElem?_getD, List.getElem?_eq_none c]; rfl
  rw [this, decide_eq_true c]; rfl
 ·rw [decide_eq_false c, Bool.not_false, Bool.and_true]
def fldQ (m : Int) (B : List Int) (L : RL) : Prop := 0 < L.length /\ (L.getD 0 []).getD 0 0 = 0 /\ (L.getD (L.length - 1) []).getD 0 0 <= m /\ ∀ j : Nat, j < L.length -> (0 < j -> (L.getD (j - 1) []).getD 0 0 < (L.getD j []).getD 0 0 /\ (L.getD (j - 1) []).drop 1 ≠ (L.getD j []).drop 1) /\ (L.getD j []).drop 1 = wthS ((L.getD j []).drop 1) B
theorem CS {L : RL} {j : Nat} (h : j < L.length) : L.getD j [] ∈ L := by
 have : L.getD j [] = L[j] := by simp [List.getD, h]
 rw [this]; exact List.getElem_mem h
theorem CT {R : RL} (h : R.Pairwise fun p q => p.getD 0 0 < q.getD 0 0) {i j : Nat} (hij : i < j) (hj : j < R.length) : (R.getD i []).getD 0 0 < (R.getD j []).getD 0 0 := by
 have hi : i < R.length := by omega
 have e1 : R.getD i [] = R[i] := by simp [List.getD, hi]
 have e2 : R.getD j [] = R[j] := by simp [List.getD, hj]
 rw [e1, e2]
 exact List.pairwise_iff_getElem.1 h i j hi hj hij
theorem PF {t : Int} {A : List RL} {b : List Int} (hb : brdP t A.flatten b) (ht : 0 <= t) (hl : A.length <= 256) (hA : ∀ q ∈ A, ∀ r ∈ q, 0 <= r.getD 0 0 /\ r.getD 0 0 <= t /\ 0 <= r.getD 1 0) :
 (∀ x ∈ b, 0 <= x /\ x <= t) /\ fldQ t (beyF A.length z4) (mrgF A [] b) /\ (mrgF A [] b).Pairwise (fun p q => p.getD 0 0 < q.getD 0 0) := by
 have hM := KD A _ b rfl hb.1
 have hx : ∀ x ∈ b, 0 <= x /\ x <= t := fun x hx => by
  rcases List.mem_cons.1 ((hb.2.1 x).1 hx) with h | h
  ·simp only [List.cons.injEq, and_true] at h; omega
  ·obtain ⟨r, hr, h⟩ := List.mem_flatMap.1 h
   obtain ⟨q, hq, hr⟩ := List.mem_flatten.1 hr
   obtain ⟨a1, a2, a3⟩ := hA q hq r hr
   unfold brR at h
   rcases List.mem_cons.1 h with h | h
   ·simp only [List.cons.injEq, and_true] at h; omega
   ·split at h
    ·simp only [List.mem_singleton, List.cons.injEq, and_true] at h; omega
    ·cases h
 have h0 : (0 : Int) ∈ b := (hb.2.1 0).2 (List.mem_cons_self ..)
 have hne : b ≠ [] := fun h => by rw [h] at h0; cases h0
 obtain ⟨n1, n2⟩ := hM.hd hne
 have hb0 : b.getD 0 0 = 0 := by
  cases b with
  | nil => exact absurd rfl hne
  | cons x b =>
    have := hx x (List.mem_cons_self ..)
    rcases List.mem_cons.1 h0 with h | h
    ·exact h.symm
    ·have := (List.pairwise_cons.1 hb.1).1 0 h
     omega
 have hn : 0 < (mrgF A [] b).length := by
  cases h : mrgF A [] b with
  | nil => exact absurd h n1
  | cons _ _ => exact Nat.succ_pos _
 have hhd : ∀ r ∈ mrgF A [] b, 0 <= r.getD 0 0 /\ r.getD 0 0 <= t := fun r hr => by
  obtain ⟨x, h, rfl⟩ := hM.rows r hr
  exact hx x h
 refine ⟨hx, ⟨hn, n2.trans hb0, (hhd _ (CS (by omega))).2, fun j hj => ⟨fun h => ⟨?_, ?_⟩, ?_⟩⟩, hM.inc⟩
 ·exact CT hM.inc (by omega) hj
 ·have := hM.dif (j - 1) (by omega)
  rwa [show j - 1 + 1 = j by omega] at this
 ·obtain ⟨x, h, e⟩ := hM.rows _ (CS hj)
  rw [e]
  exact (CI hl x).2.2
theorem KH {R : RL} {v : Int} {n : Nat} (h1 : ∀ i, i < n -> (R.getD i []).getD 0 0 <= v) (h2 : ∀ i, n <= i -> i < R.length -> v < (R.getD i []).getD 0 0) (hn : n <= R.length) :
 belR R v = R.take n /\ selR R v = if n = 0 then [] else (R.getD (n - 1) []).drop 1 := by
 have e : belR R v = R.take n := by
  unfold belR
  rw [<- List.take_append_drop n R, List.filter_append, List.filter_eq_self.2, List.filter_eq_nil_iff.2, List.append_nil]
  ·rw [List.take_append_drop]
  ·intro r hr
   obtain ⟨i, hi, rfl⟩ := List.getElem_of_mem hr
   rw [List.length_drop] at hi
   rw [List.getElem_drop]
   have e : R.getD (n + i) [] = R[n + i] := by simp [List.getD, show n + i < R.length by omega]
   have := h2 (n + i) (by omega) (by omega)
   rw [e] at this
   simp only [decide_eq_true_eq]
   omega
  ·intro r hr
   obtain ⟨i, hi, rfl⟩ := List.getElem_of_mem hr
   rw [List.length_take] at hi
   rw [List.getElem_take]
   have e : R.getD i [] = R[i] := by simp [List.getD, show i < R.length by omega]
   have := h1 i (by omega)
   rw [e] at this
   exact decide_eq_true this
 refine ⟨e, ?_⟩
 unfold selR
 rw [e]
 unfold lstR
 rw [List.length_take, Nat.min_eq_left hn]
 by_cases c : n = 0
 ·subst c; rfl
 ·rw [if_neg c, List.getD_eq_getElem?_getD, List.getElem?_take_of_lt (by omega), List.getD_eq_getElem?_getD]
theorem TE {mask want : Int} {v : Nat} : ∀ l : List Nat, [(v : Int), (v : Int)] ∈ flL mask want l ↔ v ∈ l /\ flW mask want v = true := fun l => by
 unfold flL
 rw [List.mem_map]
 constructor
 ·rintro ⟨w, hw, e⟩
  simp only [List.cons.injEq, and_true] at e
  have : w = v := by omega
  subst this
  exact List.mem_filter.1 hw
 ·rintro ⟨h1, h2⟩
  exact ⟨v, List.mem_filter.2 ⟨h1, h2⟩, rfl⟩
theorem LZ (k : Nat) (hk : k <= 6) {r : List Int} (h : ruP r) (h0 : r.getD 0 0 <= 2) : ∀ q ∈ spF k r, 0 <= q.getD 0 0 /\ q.getD 0 0 <= lstF k /\ 0 <= q.getD 1 0 := by
 obtain ⟨hf, h4, h6⟩ := h
 obtain ⟨s0, r', rfl, a0, hf⟩ := Aa hf
 obtain ⟨s1, r', rfl, a1, hf⟩ := Aa hf
 obtain ⟨s2, r', rfl, a2, hf⟩ := Aa hf
 obtain ⟨s3, r', rfl, a3, hf⟩ := Aa hf
 obtain ⟨s4, r', rfl, a4, hf⟩ := Aa hf
 obtain ⟨s5, r', rfl, a5, hf⟩ := Aa hf
 obtain ⟨s6, r', rfl, a6, hf⟩ := Aa hf
 obtain ⟨s7, r', rfl, a7, hf⟩ := Aa hf
 obtain ⟨s8, r', rfl, a8, hf⟩ := Aa hf
 obtain ⟨s9, r', rfl, a9, hf⟩ := Aa hf
 obtain ⟨sa, r', rfl, aa, hf⟩ := Aa hf
 obtain ⟨sb, r', rfl, ab, hf⟩ := Aa hf
 have r0 := u8r (show IntKind.u8.wrap s0 = s0 from a0)
 have r4 := u32r (show IntKind.u32.wrap s4 = s4 from a4)
 have r6 := u32r (show IntKind.u32.wrap s6 = s6 from a6)
 have r8 := u16r (show IntKind.u16.wrap s8 = s8 from a8)
 have r9 := u16r (show IntKind.u16.wrap s9 = s9 from a9)
 have ra := u16r (show IntKind.u16.wrap sa = sa from aa)
 have rb := u16r (show IntKind.u16.wrap sb = sb from ab)
 have g4 := pfx (n := s5) (show IntKind.u32.wrap s4 = s4 from a4) h4
 have g6 := pfx (n := s7) (show IntKind.u32.wrap s6 = s6 from a6) h6
 have one : ∀ (x y m : Int) (q : List Int), q ∈ [[x, y]] -> 0 <= x -> x <= m -> 0 <= y -> 0 <= q.getD 0 0 /\ q.getD 0 0 <= m /\ 0 <= q.getD 1 0 := fun x y m q hq h1 h2 h3 => by
  obtain rfl := List.mem_singleton.1 hq
  exact ⟨h1, h2, h3⟩
 intro q hq
 match k with
 | 0 =>
   have hq : q ∈ (if s0 < 2 then [[s0, s0]] else [[0, 1]]) := hq
   split at hq
   ·exact one _ _ 1 q hq (by omega) (by omega) (by omega)
   ·exact one _ _ 1 q hq (by omega) (by omega) (by omega)
 | 1 =>
   have hq : q ∈ (if s1 = 1 then [[0, 0]] else if s1 = 6 then [[1, 1]] else if s1 = 17 then [[2, 2]] else [[0, 2]]) := hq
   split at hq
   ·exact one _ _ 2 q hq (by omega) (by omega) (by omega)
   ·split at hq
    ·exact one _ _ 2 q hq (by omega) (by omega) (by omega)
    ·split at hq
     ·exact one _ _ 2 q hq (by omega) (by omega) (by omega)
     ·exact one _ _ 2 q hq (by omega) (by omega) (by omega)
 | 2 => exact one s4 (s4 + psz s5 - 1) 4294967295 q hq (by omega) (by omega) (by omega)
 | 3 => exact one s6 (s6 + psz s7 - 1) 4294967295 q hq (by omega) (by omega) (by omega)
 | 4 => exact one s8 s9 65535 q hq (by omega) (by omega) (by omega)
 | 5 => exact one sa sb 65535 q hq (by omega) (by omega) (by omega)
 | 6 =>
   have hq : q ∈ flL s2 s3 (List.range 64) := hq
   unfold flL at hq
   obtain ⟨v, hv, rfl⟩ := List.mem_map.1 hq
   have := List.mem_range.1 (List.mem_filter.1 hv).1
   exact ⟨by show 0 <= (v : Int); omega, by show (v : Int) <= 63; omega, by show 0 <= (v : Int); omega⟩
def ruls (L : RL) : Prop := L.length <= 256 /\ ∀ r ∈ L, fits ruK r /\ rightP r
theorem ruls.ru {L : RL} (h : ruls L) : ∀ r ∈ L, ruP r /\ r.getD 0 0 <= 2 := fun r hr => ⟨⟨(h.2 r hr).1, (h.2 r hr).2.2.2.1.1, (h.2 r hr).2.2.2.1.2⟩, (h.2 r hr).2.1⟩
def clsF (k : Nat) (L : RL) : RL := mrgF (L.map (spF k)) [] (brdF (lstF k) (L.flatMap (spF k)))
theorem Ip (k : Nat) : 0 <= lstF k := by
 match k with
 | 0 | 1 | 2 | 3 | 4 | 5 | 6 => decide
 | n + 7 => exact Int.le_refl _
theorem clsP.facts {k : Nat} (hk : k <= 6) {L R : RL} (hL : ruls L) (h : clsP k L R) :
 R = clsF k L /\ rowsOK clK R /\ fldR (AE k) (beyF L.length z4) R /\ R.Pairwise (fun p q => p.getD 0 0 < q.getD 0 0) /\ R.length <= 1 + 2 * (64 * 256) /\
 ∀ v, 0 <= v -> v <= lstF k -> belR R v ≠ [] /\ selR R v = setF (L.map (spF k)) v 0 z4 := by
 obtain ⟨h1, v, h2, rfl⟩ := h
 have hb : brdP (lstF k) (L.map (spF k)).flatten v := h2
 have hl : (L.map (spF k)).length = L.length := List.length_map ..
 obtain ⟨a1, a2, a3⟩ := PF hb (Ip k) (by rw [hl]; exact hL.1) fun q hq r hr => by
  obtain ⟨s, hs, rfl⟩ := List.mem_map.1 hq
  exact LZ k hk (hL.ru s hs).1 (hL.ru s hs).2 r hr
 rw [hl] at a2
 refine ⟨by unfold clsF; rw [<- Rc h2], h1, a2, a3, ?_, fun x h0 h1 => SO hb h0 h1⟩
 have := (KD (L.map (spF k)) _ v rfl h2.1).len
 have h3 := h2.2.2
 have h4 : ∀ l : RL, (∀ r ∈ l, ruP r) -> (l.flatMap (spF k)).length <= 64 * l.length := by
  intro l hl
  induction l with
  | nil => exact Nat.le_refl _
  | cons r l ih => rw [List.flatMap_cons, List.length_append, List.length_cons]; have := GG k r; have := ih fun r hr => hl r (List.mem_cons_of_mem _ hr); omega
 have := h4 L fun r hr => (hL.ru r hr).1
 have := hL.1
 omega
def valF (k : Nat) (s : Int) (f : List Int) : Int :=
 match k with
 | 0 => s
 | 1 => if f.getD 0 0 = 1 then 0 else if f.getD 0 0 = 6 then 1 else 2
 | 2 => f.getD 1 0
 | 3 => f.getD 2 0
 | 4 => f.getD 3 0
 | 5 => f.getD 4 0
 | _ => if f.getD 0 0 = 6 then f.getD 6 0 % 64 else 0
def pktP (s : Int) (f : List Int) : Prop := s <= 1 /\ (f.getD 0 0 = 1 \/ f.getD 0 0 = 6 \/ f.getD 0 0 = 17)
def matB (r : List Int) (s : Int) (f : List Int) : Bool := (List.range 7).all fun k => inS (spF k r) (valF k s f)
def Dw (T : List RL) (s : Int) (f : List Int) (i : Nat) : Bool := (List.range 7).all fun k => bitS (selR (T.getD k []) (valF k s f)) i
def allF (n : Nat) (T : List RL) (s : Int) (f : List Int) : List Nat := (List.range n).filter (Dw T s f)
def facK : List K := [.i .u8, .i .u32, .i .u32, .i .u16, .i .u16, .i .u8, .i .u8, .i .u8, .i .u8, .i .u32, .i .u32, .i .i64, .i .i64, .i .u8, .i .u32, .i .u32, .i .u16, .i .u16, .i .u8]
def Iq (s : Int) (f : List Int) : Prop := ∀ k, k < 7 -> 0 <= valF k s f /\ valF k s f <= lstF k
def tabs (ys : List Int) : List RL := [dc (env ys 1), dc (env ys 2), dc (env ys 3), dc (env ys 4), dc (env ys 5), dc (env ys 6), dc (env ys 7)]
theorem tabP.at {L : RL} {ys : List Int} (h : tabP L ys) (k : Nat) (hk : k < 7) : clsP k L ((tabs ys).getD k []) := by
 obtain ⟨_, h0, h1, h2, h3, h4, h5, h6⟩ := h
 match k with
 | 0 => exact h0
 | 1 => exact h1
 | 2 => exact h2
 | 3 => exact h3
 | 4 => exact h4
 | 5 => exact h5
 | 6 => exact h6
theorem tabP.all {L : RL} {ys : List Int} (h : tabP L ys) (hL : ruls L) {s : Int} {f : List Int} (hv : Iq s f) : allF L.length (tabs ys) s f = (List.range L.length).filter fun i => matB (L.getD i []) s f := by
 unfold allF
 refine List.filter_congr fun i hi => ?_
 have hi := List.mem_range.1 hi
 unfold Dw matB
 rw [Bool.eq_iff_iff, List.all_eq_true, List.all_eq_true]
 refine forall_congr' fun k => forall_congr' fun hk => ?_
 have hk := List.mem_range.1 hk
 obtain ⟨_, _, _, _, _, g⟩ := (h.at k hk).facts (by omega) hL
 rw [(g _ (hv k hk).1 (hv k hk).2).2, (CI (by rw [List.length_map]; exact hL.1) _).2.1]
 have : (L.map (spF k)).getD i [] = spF k (L.getD i []) := by
  rw [List.getD_eq_getElem?_getD, List.getElem?_map, List.getD_eq_getElem?_getD, List.getElem?_eq_getElem hi]; rfl
 rw [this]
theorem tabP.right {L : RL} {ys : List Int} (h : tabP L ys) (hL : ruls L) : tabR ys := by
 have h0 := h.1
 have := hL.1
 refine ⟨by omega, by omega, fun k hk => ?_⟩
 have g := ((h.at k hk).facts (by omega) hL).2.2.1
 rw [h0]
 have e : (tabs ys).getD k [] = dc (env ys (k + 1)) := by
  match k with
  | 0 | 1 | 2 | 3 | 4 | 5 | 6 => rfl
 rw [e] at g
 exact g
def andS (s t : List Int) : List Int := List.zipWith (bitsI .and .u64) s t
theorem KI {x y : Int} (hx : IntKind.u64.wrap x = x) (hy : IntKind.u64.wrap y = y) : IntKind.u64.wrap (bitsI .and .u64 x y) = bitsI .and .u64 x y /\ ∀ i, (bitsI .and .u64 x y).toNat.testBit i = (x.toNat.testBit i && y.toNat.testBit i) := by
 rw [Io hx hy]
 rw [IntKind.wrap_u64] at hx
 have h : x.toNat &&& y.toNat < 2 ^ 64 := Nat.lt_of_le_of_lt Nat.and_le_left (by omega)
 refine ⟨by rw [IntKind.wrap_u64]; omega, fun i => ?_⟩
 rw [Int.toNat_natCast, Nat.testBit_and]
theorem Cr {s t : List Int} (hs : setOK s) (ht : setOK t) : setOK (andS s t) /\ ∀ i, i < 256 -> bitS (andS s t) i = (bitS s i && bitS t i) := by
 have g : ∀ i, i < 4 -> (andS s t).getD i 0 = bitsI .and .u64 (s.getD i 0) (t.getD i 0) := fun i hi => by
  have h1 : i < s.length := by rw [hs.1]; exact hi
  have h2 : i < t.length := by rw [ht.1]; exact hi
  unfold andS
  simp [List.getD, List.getElem?_zipWith, h1, h2]
 have hl : (andS s t).length = 4 := by unfold andS; rw [List.length_zipWith, hs.1, ht.1]; rfl
 refine ⟨⟨hl, fun x hx => ?_⟩, fun i hi => ?_⟩
 ·obtain ⟨i, hi, rfl⟩ := List.getElem_of_mem hx
  have e : (andS s t).getD i 0 = (andS s t)[i] := by simp [List.getD, hi]
  rw [<- e, g i (by omega)]
  exact (KI (hs.at i) (ht.at i)).1
 ·unfold bitS
  rw [g _ (by omega)]
  exact (KI (hs.at _) (ht.at _)).2 _
def GI : List Int := [18446744073709551615, 18446744073709551615, 18446744073709551615, 18446744073709551615]
theorem SQ : setOK GI /\ ∀ i, i < 256 -> bitS GI i = true := by
 refine ⟨⟨rfl, fun x hx => ?_⟩, fun i hi => ?_⟩
 ·simp only [GI, List.mem_cons, List.not_mem_nil, or_false] at hx
  rcases hx with rfl | rfl | rfl | rfl <;> rfl
 ·have : GI.getD (i / 64) 0 = 18446744073709551615 := by
   rcases (show i / 64 = 0 \/ i / 64 = 1 \/ i / 64 = 2 \/ i / 64 = 3 by omega) with h | h | h | h <;> rw [h] <;> rfl
  unfold bitS
  rw [this, show (18446744073709551615 : Int).toNat = 2 ^ 64 - 1 from rfl, Nat.testBit_two_pow_sub_one]
  exact decide_eq_true (by omega)
theorem and7 {a b c d e f g : List Int} (ha : setOK a) (hb : setOK b) (hc : setOK c) (hd : setOK d) (he : setOK e) (hf : setOK f) (hg : setOK g) :
 setOK (andS (andS (andS (andS (andS (andS (andS GI a) b) c) d) e) f) g) /\ ∀ i, i < 256 -> bitS (andS (andS (andS (andS (andS (andS (andS GI a) b) c) d) e) f) g) i = (bitS a i && (bitS b i && (bitS c i && (bitS d i && (bitS e i && (bitS f i && bitS g i)))))) := by
 obtain ⟨f1, f2⟩ := SQ
 obtain ⟨a1, a2⟩ := Cr f1 ha
 obtain ⟨b1, b2⟩ := Cr a1 hb
 obtain ⟨c1, c2⟩ := Cr b1 hc
 obtain ⟨d1, d2⟩ := Cr c1 hd
 obtain ⟨e1, e2⟩ := Cr d1 he
 obtain ⟨g1, g2⟩ := Cr e1 hf
 obtain ⟨h1, h2⟩ := Cr g1 hg
 refine ⟨h1, fun i hi => ?_⟩
 rw [h2 i hi, g2 i hi, e2 i hi, d2 i hi, c2 i hi, b2 i hi, a2 i hi, f2 i hi]
 simp only [Bool.true_and, Bool.and_assoc]
theorem fldR.ord {m : Int} {B : List Int} {R : RL} (h : fldR m B R) : R.Pairwise fun p q => p.getD 0 0 < q.getD 0 0 := by
 obtain ⟨h1, h2, h3, h4⟩ := h
 have key : ∀ d i, i + d + 1 < R.length -> (R.getD i []).getD 0 0 < (R.getD (i + d + 1) []).getD 0 0 := by
  intro d
  induction d with
  | zero =>
    intro i hi
    have := ((h4 (i + 0 + 1) hi).1 (by omega)).1
    rwa [show i + 0 + 1 - 1 = i by omega] at this
  | succ d ih =>
    intro i hi
    have a := ih i (by omega)
    have b := ((h4 (i + (d + 1) + 1) hi).1 (by omega)).1
    rw [show i + (d + 1) + 1 - 1 = i + d + 1 by omega] at b
    exact Int.lt_trans a b
 refine List.pairwise_iff_getElem.2 fun i j hi hj hij => ?_
 have := key (j - i - 1) i (by omega)
 rw [show i + (j - i - 1) + 1 = j by omega] at this
 simpa [List.getD, hi, hj] using this
def cutP (R : RL) (v n : Int) : Prop := 0 <= n /\ n <= (R.length : Int) /\ (∀ i : Nat, (i : Int) < n -> (R.getD i []).getD 0 0 <= v) /\ ∀ i : Nat, n <= (i : Int) -> i < R.length -> v < (R.getD i []).getD 0 0
theorem cutP.sel {m : Int} {B : List Int} {R : RL} {v n : Int} (h : cutP R v n) (hR : fldR m B R) (hv : 0 <= v) : 1 <= n /\ selR R v = (R.getD (n - 1).toNat []).drop 1 := by
 obtain ⟨h1, h2, h3, h4⟩ := h
 obtain ⟨r1, r2, _, _⟩ := hR
 have hn : 1 <= n := Classical.byContradiction fun c => by
  have := h4 0 (by omega) r1
  omega
 refine ⟨hn, ?_⟩
 have := (KH (R := R) (v := v) (n := n.toNat) (fun i hi => h3 i (by omega)) (fun i hi hl => h4 i (by omega) hl) (by omega)).2
 rw [if_neg (by omega)] at this
 rw [this, show n.toNat - 1 = (n - 1).toNat by omega]
theorem AJ {R : RL} (h : rowsOK clK R) {i : Nat} (hi : i < R.length) : ∃ f0 f1 f2 f3 f4, R.getD i [] = [f0, f1, f2, f3, f4] /\ IntKind.u32.wrap f0 = f0 /\ setOK [f1, f2, f3, f4] := by
 have hm : R.getD i [] ∈ R := CS hi
 obtain ⟨f0, r, e, a0, hr⟩ := Aa (h _ hm)
 obtain ⟨f1, r, rfl, a1, hr⟩ := Aa hr
 obtain ⟨f2, r, rfl, a2, hr⟩ := Aa hr
 obtain ⟨f3, r, rfl, a3, hr⟩ := Aa hr
 obtain ⟨f4, r, rfl, a4, hr⟩ := Aa hr
 obtain rfl := Ba hr
 refine ⟨f0, f1, f2, f3, f4, e, a0, rfl, fun x hx => ?_⟩
 simp only [List.mem_cons, List.not_mem_nil, or_false] at hx
 rcases hx with rfl | rfl | rfl | rfl
 ·exact a1
 ·exact a2
 ·exact a3
 ·exact a4
theorem TF (T : List RL) (s : Int) (f : List Int) (i : Nat) : Dw T s f i = (bitS (selR (T.getD 0 []) (valF 0 s f)) i && (bitS (selR (T.getD 1 []) (valF 1 s f)) i && (bitS (selR (T.getD 2 []) (valF 2 s f)) i && (bitS (selR (T.getD 3 []) (valF 3 s f)) i && (bitS (selR (T.getD 4 []) (valF 4 s f)) i && (bitS (selR (T.getD 5 []) (valF 5 s f)) i && bitS (selR (T.getD 6 []) (valF 6 s f)) i)))))) := by
 show (bitS _ i && (bitS _ i && (bitS _ i && (bitS _ i && (bitS _ i && (bitS _ i && (bitS _ i && true))))))) = _
 rw [Bool.and_true]
def firI : List Nat -> Int
 | [] => -1
 | i :: _ => i
theorem L0 {x : Int} (hx : IntKind.u64.wrap x = x) (n : Nat) : (bitsI .and .u64 (IntKind.u64.wrap (x / 2 ^ n)) 1 == 1) = x.toNat.testBit n := by
 have hx' := hx
 rw [IntKind.wrap_u64] at hx
 have e : x / 2 ^ n = ((x.toNat / 2 ^ n : Nat) : Int) := by
  have h1 : x = ((x.toNat : Nat) : Int) := by omega
  have h2 : (2 : Int) ^ n = ((2 ^ n : Nat) : Int) := by rw [Int.natCast_pow]; rfl
  rw [h2, Int.natCast_ediv, <- h1]
 have hl : x.toNat / 2 ^ n <= x.toNat := Nat.div_le_self _ _
 obtain ⟨q, hq⟩ : ∃ q, x.toNat / 2 ^ n = q := ⟨_, rfl⟩
 rw [hq] at hl e
 have w : IntKind.u64.wrap (q : Int) = q := by rw [IntKind.wrap_u64]; omega
 rw [e, w, Io w rfl, Nat.testBit_eq_decide_div_mod_eq, hq, Int.toNat_natCast, show (1 : Int).toNat = 1 from rfl, Nat.and_one_is_mod]
 rw [Bool.eq_iff_iff, beq_iff_eq, decide_eq_true_eq]
 omega
end
end Go.Proofs.YtgpflpbldeflhaaDoor.Ew.Sr
set_option maxHeartbeats 2000000
namespace Go.Proofs.YtgpflpbldeflhaaDoor.Ew.Sr
open Go Go.RowKit
noncomputable section
def fa : Sh := .agg (facK.map .sc)
theorem and32 {x y : Int} (hx : 0 <= x /\ x <= 4294967295) (hy : 0 <= y /\ y <= 4294967295) : bitsI .and .u32 x y = ((x.toNat &&& y.toNat : Nat) : Int) := by
 have h : x.toNat &&& y.toNat < 2 ^ 32 := Nat.lt_of_le_of_lt Nat.and_le_left (by omega)
 have e1 : (BitVec.ofInt 32 x).toNat = x.toNat := by rw [BitVec.toNat_ofInt]; omega
 have e2 : (BitVec.ofInt 32 y).toNat = y.toNat := by rw [BitVec.toNat_ofInt]; omega
 show IntKind.u32.wrap ((BitVec.ofInt 32 x &&& BitVec.ofInt 32 y).toNat : Int) = _
 rw [BitVec.toNat_and, e1, e2, IntKind.wrap_u32]
 omega
theorem mask63 {m : Int} (h : 0 <= m /\ m <= 255) (h2 : bitsI .andNot .u8 m 63 = 0) : m <= 63 := by
 have h3 : (List.range 256).all (fun k => !decide (bitsI .andNot .u8 ((k : Nat) : Int) 63 = 0) || decide (k <= 63)) = true := by kernel_rfl
 have h4 := List.all_eq_true.1 h3 m.toNat (List.mem_range.2 (by omega))
 rw [show ((m.toNat : Nat) : Int) = m by omega, decide_eq_true h2] at h4
 have : m.toNat <= 63 := by simpa using h4
 omega
theorem TG (mask want v : Int) : inS (flL mask want (List.range 64)) v = true ↔ ∃ u : Nat, u < 64 /\ flW mask want u = true /\ (u : Int) = v := by
 unfold inS
 rw [List.any_eq_true]
 constructor
 ·rintro ⟨r, hr, h⟩
  unfold flL at hr
  obtain ⟨u, hu, rfl⟩ := List.mem_map.1 hr
  obtain ⟨h1, h2⟩ := List.mem_filter.1 hu
  unfold inR at h
  simp only [List.getD_cons_zero, List.getD_cons_succ, Bool.and_eq_true, decide_eq_true_eq] at h
  exact ⟨u, List.mem_range.1 h1, h2, by omega⟩
 ·rintro ⟨u, h1, h2, rfl⟩
  refine ⟨_, (TE _).2 ⟨List.mem_range.2 h1, h2⟩, ?_⟩
  unfold inR
  simp
theorem BM (a b v : Int) : inS [[a, b]] v = true ↔ a <= v /\ v <= b := by
 unfold inS inR
 simp
end
end Go.Proofs.YtgpflpbldeflhaaDoor.Ew.Sr
set_option maxHeartbeats 8000000
namespace Go.Proofs.YtgpflpbldeflhaaDoor.Ew.Sr
open Go Go.RowKit
noncomputable section
abbrev badP (m : Int) (L : RL) : Prop := L.length = 0 \/ (L.getD 0 []).getD 0 0 ≠ 0 \/ m < (L.getD (L.length - 1) []).getD 0 0
def pre16 (xs : List Int) : Prop := ∀ k : Nat, k < 7 -> rowsOK clK (dc (env xs (k + 1))) /\ ((dc (env xs (k + 1))).length : Int) <= 1000000
def Ir (xs ys : List Int) : Prop := (env ys 0 = 1 /\ tabR xs) \/ (env ys 0 = 0 /\ ¬ tabR xs)
def b16 : Ent := ⟨16, 16, [tab], [], [0, 1, 2, 3, 4, 5, 6], .sc .b, z0, pre16⟩
def c16 : Ctx := ⟨[], [(16, pR, leR), (16, pW, leW)]⟩
def e16 : Ent := b16.fw (fnG Tryd.prog G0 b16 Ir)
theorem TH {v : Int} : K.b.norm (K.b.norm v) = K.b.norm v := K.norm_norm _ _
theorem CA {l : Int} (h : rowsOK clK (dc l)) (i : Nat) : IntKind.u32.wrap (((dc l).getD i []).getD 0 0) = ((dc l).getD i []).getD 0 0 := by
 by_cases c : i < (dc l).length
 ·obtain ⟨r, er, hr, _, _⟩ := AK (i := (i : Int)) h (by omega) (by omega)
  obtain ⟨f0, r1, rfl, a0, hr⟩ := Aa hr
  simp only [AH] at a0
  rw [show (i : Int).toNat = i by omega] at er
  rw [er]; exact a0
 ·have e : (dc l).getD i [] = [] := by rw [List.getD_eq_getElem?_getD, List.getElem?_eq_none (by omega)]; rfl
  rw [e]; rfl
theorem badB {m : Int} {L : RL} : ((((L.length : Int) == 0) || (((L.getD 0 []).getD 0 0) != 0)) || decide (((L.getD ((L.length : Int) - 1).toNat []).getD 0 0) > m)) = decide (badP m L) := by
 rw [show ((L.length : Int) - 1).toNat = L.length - 1 by omega, Bool.eq_iff_iff]
 simp only [Bool.or_eq_true, beq_iff_eq, bne_iff_ne, decide_eq_true_eq, ne_eq]
 unfold badP
 constructor
 ·rintro ((h | h) | h)
  ·exact Or.inl (by omega)
  ·exact Or.inr (Or.inl h)
  ·exact Or.inr (Or.inr h)
 ·rintro (h | h | h)
  ·exact Or.inl (Or.inl (by omega))
  ·exact Or.inl (Or.inr h)
  ·exact Or.inr h
theorem CU {m : Int} {B : List Int} {L : RL} {v w : Int} (h : (v = 1 /\ ∀ j : Nat, 0 <= j -> j < L.length -> rowG L B j) \/ (v = 0 /\ w = 0 /\ ∃ j : Nat, j < L.length /\ ¬ rowG L B j)) :
 (badP m L /\ ¬ fldR m B L) \/ (¬ badP m L /\ v = 1 /\ fldR m B L) \/ (¬ badP m L /\ v = 0 /\ w = 0 /\ ¬ fldR m B L) := by
 by_cases c : badP m L
 ·refine Or.inl ⟨c, fun k => ?_⟩
  obtain ⟨k1, k2, k3, _⟩ := k
  rcases c with c | c | c
  ·omega
  ·exact c k2
  ·omega
 ·rcases h with ⟨h1, h2⟩ | ⟨h1, h2, j, h3, h4⟩
  ·refine Or.inr (Or.inl ⟨c, h1, ?_, ?_, ?_, fun j hj => h2 j (Nat.zero_le _) hj⟩)
   ·exact Nat.pos_of_ne_zero fun k => c (Or.inl k)
   ·exact Classical.byContradiction fun k => c (Or.inr (Or.inl k))
   ·exact Classical.byContradiction fun k => c (Or.inr (Or.inr (Int.not_le.1 k)))
  ·exact Or.inr (Or.inr ⟨c, h1, h2, fun k => h4 (k.2.2.2 j h3)⟩)
theorem c16ok : c16.OK Tryd.prog G0 := ⟨rfl, mF trivial, mF ⟨okR.1, okW.1, trivial⟩⟩
theorem ok16 : EPz e16 Ir := by
 refine c16ok.nm.entryK true [(100009016, leR.nm.ent), (100009216, leW.nm.ent)] ?_
 go_invoke
 refine enK rfl ?_
 intro l ρ n hn l0 l1 l2 l3 l4 l5 l6 hp v1 hn1 v2 hn2 v3 hn3 v4 hn4 v5 hn5 v6 hn6 v7 hn7 v8 hn8 v9 hn9 v10 hn10 v11 hn11 v12 hn12 v13 hn13 v14 hn14 v15 hn15 v16 hn16 v17 hn17 v18 hn18 hSS hd
 simp (disch := omega) only [and_true, Ent.nm_fn, hSS, ewZ, reduceCtorEq, seval] at hd
 obtain ⟨hd1, hd2, hd3, hd4, hd5, hd6, hd7, hd8, hd9, hd10, hd11, hd12, hd13, hd14, hd15, hd16, hd17, hd18⟩ := hd
 have P : ∀ {l : Int}, rowsOK clK (dc l) /\ ((dc l).length : Int) <= 1000000 -> IntKind.i64.wrap ((dc l).length : Int) = (dc l).length /\ IntKind.i64.wrap ((dc l).length - 1 : Int) = (dc l).length - 1 /\ ∀ i, IntKind.u32.wrap (((dc l).getD i []).getD 0 0) = ((dc l).getD i []).getD 0 0 :=
  fun {l} h => ⟨i64w (by omega) (by have := h.2; omega), i64w (by omega) (by have := h.2; omega), CA h.1⟩
 have p0 : rowsOK clK (dc l0) /\ ((dc l0).length : Int) <= 1000000 := hp 0 (by omega)
 obtain ⟨wl0, wm0, hw0⟩ := P p0
 have p1 : rowsOK clK (dc l1) /\ ((dc l1).length : Int) <= 1000000 := hp 1 (by omega)
 obtain ⟨wl1, wm1, hw1⟩ := P p1
 have p2 : rowsOK clK (dc l2) /\ ((dc l2).length : Int) <= 1000000 := hp 2 (by omega)
 obtain ⟨wl2, wm2, hw2⟩ := P p2
 have p3 : rowsOK clK (dc l3) /\ ((dc l3).length : Int) <= 1000000 := hp 3 (by omega)
 obtain ⟨wl3, wm3, hw3⟩ := P p3
 have p4 : rowsOK clK (dc l4) /\ ((dc l4).length : Int) <= 1000000 := hp 4 (by omega)
 obtain ⟨wl4, wm4, hw4⟩ := P p4
 have p5 : rowsOK clK (dc l5) /\ ((dc l5).length : Int) <= 1000000 := hp 5 (by omega)
 obtain ⟨wl5, wm5, hw5⟩ := P p5
 have p6 : rowsOK clK (dc l6) /\ ((dc l6).length : Int) <= 1000000 := hp 6 (by omega)
 obtain ⟨wl6, wm6, hw6⟩ := P p6
 by_cases h0 : 0 <= n /\ n <= 256
 rotate_left
 ·refine ⟨?_, Or.inr ⟨?_, fun k => h0 ⟨k.1, k.2.1⟩⟩⟩
  ·simp (disch := omega) only [ewZ, reduceCtorEq, seval, hSS, wl0, wm0, hw0, wl1, wm1, hw1, wl2, wm2, hw2, wl3, wm3, hw3, wl4, wm4, hw4, wl5, wm5, hw5, wl6, wm6, hw6]
   exact fun h => absurd h h0
  ·show E.den l.F ρ _ = 0
   have hb : (!(decide (n < 0) || decide (256 < n))) = false := by simp; omega
   simp (disch := omega) only [ewZ, reduceCtorEq, seval, hSS, wl0, wm0, hw0, wl1, wm1, hw1, wl2, wm2, hw2, wl3, wm3, hw3, wl4, wm4, hw4, wl5, wm5, hw5, wl6, wm6, hw6, hb, Bool.false_and]
   rfl
 have yR : leR.ent.pre [0, 0, 0, 0, n] := h0
 have zR := (PostOK.usf (vs := [v1, v2, v3, v4]) okR.2 ⟨hd1, hd2, hd3, hd4, trivial⟩) ⟨rfl, rfl, rfl, rfl, hn, trivial⟩ yR
 replace zR : [v1, v2, v3, v4] = beyF n.toNat [0, 0, 0, 0] := zR
 have y0 : leW.ent.pre [0, v1, v2, v3, v4, l0, l0, ((dc l0).length : Int), 0] := ⟨rfl, p0.1, rfl, Int.le_refl _, by show (0 : Int) <= ((dc l0).length : Int); omega, p0.2⟩
 simp only [wl0] at hd5 hd6
 have z0 := (PostOK.usf (vs := [v5, v6]) okW.2 ⟨hd5, hd6, trivial⟩) ⟨rfl, hn1, hn2, hn3, hn4, rfl, rfl, wl0, rfl, trivial⟩ y0
 replace z0 := CU (m := 1) (B := [v1, v2, v3, v4]) (L := dc l0) (v := v5) (w := v6) z0
 have y1 : leW.ent.pre [v6, v1, v2, v3, v4, l1, l1, ((dc l1).length : Int), 0] := ⟨rfl, p1.1, rfl, Int.le_refl _, by show (0 : Int) <= ((dc l1).length : Int); omega, p1.2⟩
 simp only [wl1] at hd7 hd8
 have z1 := (PostOK.usf (vs := [v7, v8]) okW.2 ⟨hd7, hd8, trivial⟩) ⟨hn6, hn1, hn2, hn3, hn4, rfl, rfl, wl1, rfl, trivial⟩ y1
 replace z1 := CU (m := 2) (B := [v1, v2, v3, v4]) (L := dc l1) (v := v7) (w := v8) z1
 have y2 : leW.ent.pre [v8, v1, v2, v3, v4, l2, l2, ((dc l2).length : Int), 0] := ⟨rfl, p2.1, rfl, Int.le_refl _, by show (0 : Int) <= ((dc l2).length : Int); omega, p2.2⟩
 simp only [wl2] at hd9 hd10
 have z2 := (PostOK.usf (vs := [v9, v10]) okW.2 ⟨hd9, hd10, trivial⟩) ⟨hn8, hn1, hn2, hn3, hn4, rfl, rfl, wl2, rfl, trivial⟩ y2
 replace z2 := CU (m := 4294967295) (B := [v1, v2, v3, v4]) (L := dc l2) (v := v9) (w := v10) z2
 have y3 : leW.ent.pre [v10, v1, v2, v3, v4, l3, l3, ((dc l3).length : Int), 0] := ⟨rfl, p3.1, rfl, Int.le_refl _, by show (0 : Int) <= ((dc l3).length : Int); omega, p3.2⟩
 simp only [wl3] at hd11 hd12
 have z3 := (PostOK.usf (vs := [v11, v12]) okW.2 ⟨hd11, hd12, trivial⟩) ⟨hn10, hn1, hn2, hn3, hn4, rfl, rfl, wl3, rfl, trivial⟩ y3
 replace z3 := CU (m := 4294967295) (B := [v1, v2, v3, v4]) (L := dc l3) (v := v11) (w := v12) z3
 have y4 : leW.ent.pre [v12, v1, v2, v3, v4, l4, l4, ((dc l4).length : Int), 0] := ⟨rfl, p4.1, rfl, Int.le_refl _, by show (0 : Int) <= ((dc l4).length : Int); omega, p4.2⟩
 simp only [wl4] at hd13 hd14
 have z4 := (PostOK.usf (vs := [v13, v14]) okW.2 ⟨hd13, hd14, trivial⟩) ⟨hn12, hn1, hn2, hn3, hn4, rfl, rfl, wl4, rfl, trivial⟩ y4
 replace z4 := CU (m := 65535) (B := [v1, v2, v3, v4]) (L := dc l4) (v := v13) (w := v14) z4
 have y5 : leW.ent.pre [v14, v1, v2, v3, v4, l5, l5, ((dc l5).length : Int), 0] := ⟨rfl, p5.1, rfl, Int.le_refl _, by show (0 : Int) <= ((dc l5).length : Int); omega, p5.2⟩
 simp only [wl5] at hd15 hd16
 have z5 := (PostOK.usf (vs := [v15, v16]) okW.2 ⟨hd15, hd16, trivial⟩) ⟨hn14, hn1, hn2, hn3, hn4, rfl, rfl, wl5, rfl, trivial⟩ y5
 replace z5 := CU (m := 65535) (B := [v1, v2, v3, v4]) (L := dc l5) (v := v15) (w := v16) z5
 have y6 : leW.ent.pre [v16, v1, v2, v3, v4, l6, l6, ((dc l6).length : Int), 0] := ⟨rfl, p6.1, rfl, Int.le_refl _, by show (0 : Int) <= ((dc l6).length : Int); omega, p6.2⟩
 simp only [wl6] at hd17 hd18
 have z6 := (PostOK.usf (vs := [v17, v18]) okW.2 ⟨hd17, hd18, trivial⟩) ⟨hn16, hn1, hn2, hn3, hn4, rfl, rfl, wl6, rfl, trivial⟩ y6
 replace z6 := CU (m := 63) (B := [v1, v2, v3, v4]) (L := dc l6) (v := v17) (w := v18) z6
 refine ⟨?_, ?_⟩ <;> simp (disch := omega) only [ewZ, reduceCtorEq, seval, hSS, wl0, wm0, hw0, wl1, wm1, hw1, wl2, wm2, hw2, wl3, wm3, hw3, wl4, wm4, hw4, wl5, wm5, hw5, wl6, wm6, hw6]
 ·exact fun _ => ⟨yR, fun h => by omega, fun h => ⟨by omega, by omega⟩, fun _ => y0, fun _ => ⟨fun h => by omega, fun h => ⟨by omega, by omega⟩, fun _ => y1, fun _ => ⟨fun h => by omega, fun h => ⟨by omega, by omega⟩, fun _ => y2, fun _ => ⟨fun h => by omega, fun h => ⟨by omega, by omega⟩, fun _ => y3, fun _ => ⟨fun h => by omega, fun h => ⟨by omega, by omega⟩, fun _ => y4, fun _ => ⟨fun h => by omega, fun h => ⟨by omega, by omega⟩, fun _ => y5, fun _ => ⟨fun h => by omega, fun h => ⟨by omega, by omega⟩, fun _ => y6⟩⟩⟩⟩⟩⟩⟩
 ·have hb : (!(decide (n < 0) || decide (256 < n))) = true := by simp; omega
  simp only [badB, hb, Bool.true_and]
  have hT : tabR [n, l0, l1, l2, l3, l4, l5, l6] ↔ fldR 1 [v1, v2, v3, v4] (dc l0) /\ fldR 2 [v1, v2, v3, v4] (dc l1) /\ fldR 4294967295 [v1, v2, v3, v4] (dc l2) /\ fldR 4294967295 [v1, v2, v3, v4] (dc l3) /\ fldR 65535 [v1, v2, v3, v4] (dc l4) /\ fldR 65535 [v1, v2, v3, v4] (dc l5) /\ fldR 63 [v1, v2, v3, v4] (dc l6) := by
   rw [zR]
   constructor
   ·rintro ⟨_, _, h⟩
    exact ⟨h 0 (by decide), h 1 (by decide), h 2 (by decide), h 3 (by decide), h 4 (by decide), h 5 (by decide), h 6 (by decide)⟩
   ·rintro ⟨g0, g1, g2, g3, g4, g5, g6⟩
    exact ⟨h0.1, h0.2, fun k hk => match k, hk with | 0, _ => g0 | 1, _ => g1 | 2, _ => g2 | 3, _ => g3 | 4, _ => g4 | 5, _ => g5 | 6, _ => g6⟩
  have no : ∀ X : Bool, X = false -> ¬ tabR [n, l0, l1, l2, l3, l4, l5, l6] -> Ir [n, l0, l1, l2, l3, l4, l5, l6] [b2i X] := fun X h1 h2 => by subst h1; exact Or.inr ⟨rfl, h2⟩
  rcases z0 with ⟨c0, f0⟩ | ⟨c0, rfl, f0⟩ | ⟨c0, rfl, rfl, f0⟩
  ·refine no _ ?_ fun h => f0 (hT.1 h).1
   simp [i2b, c0]
  rotate_left
  ·refine no _ ?_ fun h => f0 (hT.1 h).1
   simp [i2b, c0]
  rcases z1 with ⟨c1, f1⟩ | ⟨c1, rfl, f1⟩ | ⟨c1, rfl, rfl, f1⟩
  ·refine no _ ?_ fun h => f1 (hT.1 h).2.1
   simp [i2b, c1, c0]
  rotate_left
  ·refine no _ ?_ fun h => f1 (hT.1 h).2.1
   simp [i2b, c1, c0]
  rcases z2 with ⟨c2, f2⟩ | ⟨c2, rfl, f2⟩ | ⟨c2, rfl, rfl, f2⟩
  ·refine no _ ?_ fun h => f2 (hT.1 h).2.2.1
   simp [i2b, c2, c0, c1]
  rotate_left
  ·refine no _ ?_ fun h => f2 (hT.1 h).2.2.1
   simp [i2b, c2, c0, c1]
  rcases z3 with ⟨c3, f3⟩ | ⟨c3, rfl, f3⟩ | ⟨c3, rfl, rfl, f3⟩
  ·refine no _ ?_ fun h => f3 (hT.1 h).2.2.2.1
   simp [i2b, c3, c0, c1, c2]
  rotate_left
  ·refine no _ ?_ fun h => f3 (hT.1 h).2.2.2.1
   simp [i2b, c3, c0, c1, c2]
  rcases z4 with ⟨c4, f4⟩ | ⟨c4, rfl, f4⟩ | ⟨c4, rfl, rfl, f4⟩
  ·refine no _ ?_ fun h => f4 (hT.1 h).2.2.2.2.1
   simp [i2b, c4, c0, c1, c2, c3]
  rotate_left
  ·refine no _ ?_ fun h => f4 (hT.1 h).2.2.2.2.1
   simp [i2b, c4, c0, c1, c2, c3]
  rcases z5 with ⟨c5, f5⟩ | ⟨c5, rfl, f5⟩ | ⟨c5, rfl, rfl, f5⟩
  ·refine no _ ?_ fun h => f5 (hT.1 h).2.2.2.2.2.1
   simp [i2b, c5, c0, c1, c2, c3, c4]
  rotate_left
  ·refine no _ ?_ fun h => f5 (hT.1 h).2.2.2.2.2.1
   simp [i2b, c5, c0, c1, c2, c3, c4]
  rcases z6 with ⟨c6, f6⟩ | ⟨c6, rfl, f6⟩ | ⟨c6, rfl, rfl, f6⟩
  ·refine no _ ?_ fun h => f6 (hT.1 h).2.2.2.2.2.2
   simp [i2b, c6, c0, c1, c2, c3, c4, c5]
  rotate_left
  ·refine no _ ?_ fun h => f6 (hT.1 h).2.2.2.2.2.2
   simp [i2b, c6, c0, c1, c2, c3, c4, c5]
  have hx : ∀ X : Bool, X = true -> Ir [n, l0, l1, l2, l3, l4, l5, l6] [b2i X] := fun X h1 => by subst h1; exact Or.inl ⟨rfl, hT.2 ⟨f0, f1, f2, f3, f4, f5, f6⟩⟩
  refine hx _ ?_
  simp [i2b, c0, c1, c2, c3, c4, c5, c6]
end
end Go.Proofs.YtgpflpbldeflhaaDoor.Ew.Sr
set_option maxHeartbeats 8000000
namespace Go.Proofs.YtgpflpbldeflhaaDoor.Ew.Sr
open Go Go.RowKit
noncomputable section
def bxL : Sh := .obj 22 [lcl]
def sfn : Sh := .fnc 61 [bxL, bxU]
def ordR (R : RL) : Prop := R.Pairwise fun p q => p.getD 0 0 < q.getD 0 0
def preV (xs : List Int) : Prop := rowsOK clK (dc (env xs 0)) /\ ordR (dc (env xs 0)) /\ ((dc (env xs 0)).length : Int) <= 1000000 /\ 0 <= env xs 2 /\ env xs 2 <= env xs 3 /\ env xs 3 <= ((dc (env xs 0)).length : Int) /\
 (∀ i : Nat, (i : Int) < env xs 2 -> ((dc (env xs 0)).getD i []).getD 0 0 <= env xs 1) /\ ∀ i : Nat, env xs 3 <= (i : Int) -> i < (dc (env xs 0)).length -> env xs 1 < ((dc (env xs 0)).getD i []).getD 0 0
def RK (xs ys : List Int) : Prop := cutP (dc (env xs 0)) (env xs 1) (env ys 0)
def muV (xs : List Int) : Nat := (env xs 3 - env xs 2).toNat
def pV : List Bool := [true,true,false,false]
def lbV : LEnt := ⟨⟨9060, 999999, [sfn, i64, i64], [], [0, 1, 2], .tup [i64], z0, preV⟩, [1, 5, 6], [5], [6, 7] ++ (List.range 16).map (· + 9), [.ex 0], 26, []⟩
def leV : LEnt := lbV.fw (fnM Tryd.prog G0 60 pV lbV RK)
def pre60 (xs : List Int) : Prop := rowsOK clK (dc (env xs 1)) /\ ordR (dc (env xs 1)) /\ ((dc (env xs 1)).length : Int) <= 1000000 /\ env xs 0 = ((dc (env xs 1)).length : Int)
def PG (xs ys : List Int) : Prop := cutP (dc (env xs 1)) (env xs 2) (env ys 0)
def b60 : Ent := ⟨60, 60, [i64, sfn], [], [0, 1, 2], i64, z0, pre60⟩
def c60 : Ctx := ⟨[], [(60, pV, leV)]⟩
def e60 : Ent := b60.fw (fnG Tryd.prog G0 b60 PG)
def Bc (k : Nat) (xs ys : List Int) : Prop := (env ys 1 = 1 /\ pktP (env xs 0) (xs.drop 1) /\ env ys 0 = valF k (env xs 0) (xs.drop 1)) \/ (env ys 1 = 0 /\ ¬ pktP (env xs 0) (xs.drop 1) /\ env ys 0 = 0)
def b23 (k : Int) (key : Nat) : Ent := ⟨key, 23, [u8, fa, fl k], [], [], .tup [u32, .sc .b], z0, T0⟩
def b230 : Ent := b23 0 2300
def b231 : Ent := b23 1 2301
def b232 : Ent := b23 2 2302
def b233 : Ent := b23 3 2303
def b234 : Ent := b23 4 2304
def b235 : Ent := b23 5 2305
def b236 : Ent := b23 6 2306
def PH := Bc 0
def PJ := Bc 1
def PK := Bc 2
def PN := Bc 3
def PO := Bc 4
def PQ := Bc 5
def PR := Bc 6
def e230 : Ent := b230.fw (fnG Tryd.prog G0 b230 PH)
def e231 : Ent := b231.fw (fnG Tryd.prog G0 b231 PJ)
def e232 : Ent := b232.fw (fnG Tryd.prog G0 b232 PK)
def e233 : Ent := b233.fw (fnG Tryd.prog G0 b233 PN)
def e234 : Ent := b234.fw (fnG Tryd.prog G0 b234 PO)
def e235 : Ent := b235.fw (fnG Tryd.prog G0 b235 PQ)
def e236 : Ent := b236.fw (fnG Tryd.prog G0 b236 PR)
theorem PS {R : RL} (h : ordR R) {i j : Nat} (hij : i < j) (hj : j < R.length) : (R.getD i []).getD 0 0 < (R.getD j []).getD 0 0 := CT h hij hj
theorem okV : IPz 60 pV leV RK := by
 refine Ctx.OK.nil.loopK muV false 9060 [] ⟨_, _, _, Tryd.func60, rfl, rfl⟩ ?_
 go_invoke
 refine enK rfl ?_
 intro φ l ρ L v hv i hi j hj hp hφ hSS _
 obtain ⟨p1, p2, p3, p4, p5, p6, p7, p8⟩ := hp
 replace p1 : rowsOK clK (dc L) := p1
 replace p2 : ordR (dc L) := p2
 simp only [ewY, seval] at p3 p4 p5 p6 p7 p8
 by_cases c : i < j
 ·obtain ⟨H, hH⟩ : ∃ H, (i + j).fdiv (2 ^ min 1 IntKind.u64.bits) = H := ⟨_, rfl⟩
  have hH2 : (i + j) / 2 = H := by rw [<- hH]; show _ = (i + j).fdiv 2; rw [Int.fdiv_eq_ediv_of_nonneg _ (by omega)]
  have w1 : IntKind.i64.wrap (i + j) = i + j := i64w (by omega) (by omega)
  have w2 : IntKind.u64.wrap (i + j) = i + j := u64w (by omega) (by omega)
  have w3 : IntKind.u64.wrap H = H := u64w (by omega) (by omega)
  have w4 : IntKind.i64.wrap H = H := i64w (by omega) (by omega)
  have w5 : IntKind.i64.wrap (H + 1) = H + 1 := i64w (by omega) (by omega)
  obtain ⟨r, er, hr, _, _⟩ := AK p1 (by omega : 0 <= H) (by omega : H < ((dc L).length : Int))
  obtain ⟨f0, r1, rfl, a0, hr⟩ := Aa hr
  simp only [AH] at a0
  by_cases c2 : f0 <= v
  rotate_left
  ·have yp : lbV.ent.pre [L, v, i, H] := ⟨p1, p2, p3, p4, by show i <= H; omega, by show H <= ((dc L).length : Int); omega, p7, fun k (hk : H <= (k : Int)) hl => by
    show v < ((dc L).getD k []).getD 0 0
    rcases (show k = H.toNat \/ H.toNat < k by omega) with rfl | hk2
    ·rw [er]; exact Int.not_le.1 c2
    ·have := PS p2 hk2 hl
     rw [er] at this
     have c2 : v < f0 := Int.not_le.1 c2
     exact Int.lt_trans c2 this⟩
   have ym : muV [L, v, i, H] < muV [L, v, i, j] := by show (H - i).toNat < (j - i).toNat; omega
   have ih := hφ [L, v, i, H] ⟨rfl, hv, hi, w4, trivial⟩ yp ym
   refine ⟨?_, ?_⟩ <;> simp (disch := omega) only [ewZ, reduceCtorEq, seval, hSS, c, w1, w2, hH, w3, w4, w5, er, a0, c2]
   ·exact ⟨⟨by omega, by omega⟩, yp, ym⟩
   ·exact ih
  ·have yp : lbV.ent.pre [L, v, H + 1, j] := ⟨p1, p2, p3, by show 0 <= H + 1; omega, by show H + 1 <= j; omega, p6, fun k (hk : (k : Int) < H + 1) => by
    show ((dc L).getD k []).getD 0 0 <= v
    rcases (show k = H.toNat \/ k < H.toNat by omega) with rfl | hk2
    ·rw [er]; exact c2
    ·have hHl : H.toNat < (dc L).length := by omega
     have := PS p2 hk2 hHl
     rw [er] at this
     have c2 : f0 <= v := c2
     exact Int.le_of_lt (Int.lt_of_lt_of_le this c2), p8⟩
   have ym : muV [L, v, H + 1, j] < muV [L, v, i, j] := by show (j - (H + 1)).toNat < (j - i).toNat; omega
   have ih := hφ [L, v, H + 1, j] ⟨rfl, hv, w5, hj, trivial⟩ yp ym
   refine ⟨?_, ?_⟩ <;> simp (disch := omega) only [ewZ, reduceCtorEq, seval, hSS, c, w1, w2, hH, w3, w4, w5, er, a0, c2]
   ·exact ⟨⟨by omega, by omega⟩, yp, ym⟩
   ·exact ih
 ·refine ⟨?_, ?_⟩ <;> simp (disch := omega) only [ewZ, reduceCtorEq, seval, hSS, c]
  ·have e : i = j := by omega
   subst e
   exact ⟨p4, p6, p7, p8⟩
theorem c60ok : c60.OK Tryd.prog G0 := ⟨rfl, mF trivial, mF ⟨okV.1, trivial⟩⟩
theorem ok60 : EPz e60 PG := by
 refine c60ok.entryK false [(9060, leV.ent)] ?_
 go_invoke
 refine enK rfl ?_
 intro l ρ n hn L v hv hp hSS _
 obtain ⟨p1, p2, p3, p4⟩ := hp
 replace p4 : n = ((dc L).length : Int) := p4
 replace p3 : ((dc L).length : Int) <= 1000000 := p3
 have yp : leV.ent.pre [L, v, 0, n] := ⟨p1, p2, p3, Int.le_refl _, by show (0 : Int) <= n; omega, by show n <= _; exact Int.le_of_eq p4, fun i (hi : (i : Int) < (0 : Int)) => absurd hi (by omega), fun i (hi : n <= (i : Int)) hl => by
  have hl : i < (dc L).length := hl
  omega⟩
 have z := okV.2 [L, v, 0, n] ⟨rfl, hv, rfl, hn, trivial⟩ yp
 refine ⟨?_, ?_⟩ <;> simp (disch := omega) only [ewZ, reduceCtorEq, seval, hSS]
 ·exact yp
 ·exact z
theorem ix_p (p : Int) : e47.pre [cd [[1], [6], [17]], p] /\ (IntKind.u8.wrap p = p -> IntKind.i64.wrap (e47.fn 0 [cd [[1], [6], [17]], p]) = if p = 1 then 0 else if p = 6 then 1 else if p = 17 then 2 else -1) := by
 have y : e47.pre [cd [[1], [6], [17]], p] := ⟨fun r hr => by
  have hr : r ∈ dc (cd [[1], [6], [17]]) := hr
  rw [Ab] at hr
  simp only [List.mem_cons, List.not_mem_nil, or_false] at hr
  rcases hr with rfl | rfl | rfl <;> exact ⟨rfl, trivial⟩, by show ((dc (cd [[1], [6], [17]])).length : Int) <= 1000000; rw [Ab]; decide⟩
 refine ⟨y, fun hp => ?_⟩
 have z := ok47.2 [cd [[1], [6], [17]], p] ⟨rfl, hp, trivial⟩ y
 have z : IntKind.i64.wrap (e47.fn 0 [cd [[1], [6], [17]], p]) = ixF (dc (cd [[1], [6], [17]])) p 0 := z
 rw [z, Ab]
 show (if (1 : Int) = p then 0 else if (6 : Int) = p then 0 + 1 else if (17 : Int) = p then 0 + 1 + 1 else -1) = _
 repeat' split
 all_goals omega
theorem v23 {k : Nat} {s p X : Int} {f : List Int} (hf : f.getD 0 0 = p) (hX : pktP s f -> X = valF k s f) :
 Bc k (s :: f) [if s <= 1 -> (if p = 1 then 0 else if p = 6 then 1 else if p = 17 then 2 else -1) < (0 : Int) then 0 else X, b2i !(decide (1 < s) || decide ((if p = 1 then 0 else if p = 6 then 1 else if p = 17 then 2 else -1) < (0 : Int)))] := by
 by_cases c : pktP s f
 ·have c' := c
  obtain ⟨c1, c2⟩ := c
  rw [hf] at c2
  refine Or.inl ⟨?_, c', ?_⟩
  ·show b2i _ = 1
   rw [decide_eq_false (by omega : ¬ 1 < s)]
   rcases c2 with rfl | rfl | rfl <;> rfl
  ·show (if _ then (0 : Int) else X) = valF k s f
   rw [if_neg, hX c']
   intro h
   have h := h c1
   rcases c2 with rfl | rfl | rfl <;> simp at h
 ·refine Or.inr ⟨?_, c, ?_⟩
  ·show b2i _ = 0
   by_cases c1 : 1 < s
   ·rw [decide_eq_true c1]; rfl
   ·have : (if p = 1 then 0 else if p = 6 then 1 else if p = 17 then 2 else -1) < (0 : Int) := by
     have c2 : ¬ (p = 1 \/ p = 6 \/ p = 17) := fun h => c ⟨by omega, by rw [hf]; exact h⟩
     rw [if_neg (by omega), if_neg (by omega), if_neg (by omega)]; decide
    rw [decide_eq_true this, Bool.or_true]; rfl
  ·show (if _ then (0 : Int) else X) = 0
   rw [if_pos]
   intro c1
   have c2 : ¬ (p = 1 \/ p = 6 \/ p = 17) := fun h => c ⟨c1, by rw [hf]; exact h⟩
   rw [if_neg (by omega), if_neg (by omega), if_neg (by omega)]; decide
theorem ok231 : EPz e231 PJ := by
 refine Il.entryK false [(47, e47)] ?_
 go_invoke
 refine enK rfl ?_
 intro l ρ s hs p hp a1 ha1 a2 ha2 a3 ha3 a4 ha4 kd hkd a6 ha6 ty hty co hco sq hsq ac hac wi hwi le hle q0 hq0 q1 hq1 q2 hq2 q3 hq3 q4 hq4 qk hqk hpp hSS _
 obtain ⟨y0, z⟩ := ix_p p
 have z := z hp
 refine ⟨?_, ?_⟩ <;> simp (disch := omega) only [ewZ, reduceCtorEq, seval, hSS, z]
 ·exact y0
 ·refine v23 rfl fun c => ?_
  show _ = (if p = 1 then (0 : Int) else if p = 6 then 1 else 2)
  have c2 : p = 1 \/ p = 6 \/ p = 17 := c.2
  rcases c2 with h | h | h <;> rw [h] <;> rfl
theorem ok232Z : (EPz e232 PK) /\ (EPz e233 PN) := by
 refine ⟨?_, ?_⟩
 all_goals
  refine Il.entryK false [(47, e47)] ?_
  go_invoke
  refine enK rfl ?_
  intro l ρ s hs p hp a1 ha1 a2 ha2 a3 ha3 a4 ha4 kd hkd a6 ha6 ty hty co hco sq hsq ac hac wi hwi le hle q0 hq0 q1 hq1 q2 hq2 q3 hq3 q4 hq4 qk hqk hpp hSS _
  obtain ⟨y0, z⟩ := ix_p p
  have z := z hp
  refine ⟨?_, ?_⟩ <;> simp (disch := omega) only [ewZ, reduceCtorEq, seval, hSS, z]
  ·exact y0
  ·refine v23 rfl fun c => ?_
   rfl
theorem ok230Z : (EPz e230 PH) /\ (EPz e234 PO) /\ (EPz e235 PQ) := by
 refine ⟨?_, ?_, ?_⟩
 all_goals
  refine Il.entryK false [(47, e47)] ?_
  go_invoke
  refine enK rfl ?_
  intro l ρ s hs p hp a1 ha1 a2 ha2 a3 ha3 a4 ha4 kd hkd a6 ha6 ty hty co hco sq hsq ac hac wi hwi le hle q0 hq0 q1 hq1 q2 hq2 q3 hq3 q4 hq4 qk hqk hpp hSS _
  obtain ⟨y0, z⟩ := ix_p p
  have z := z hp
  refine ⟨?_, ?_⟩ <;> simp (disch := omega) only [ewZ, reduceCtorEq, seval, hSS, z]
  ·exact y0
  ·refine v23 rfl fun c => ?_
   first | exact u32w (by have := u8r hs; omega) (by have := u8r hs; omega) | exact u32w (by have := u16r ha3; omega) (by have := u16r ha3; omega) | exact u32w (by have := u16r ha4; omega) (by have := u16r ha4; omega)
theorem ok236 : EPz e236 PR := by
 refine Il.entryK false [(47, e47)] ?_
 go_invoke
 refine enK rfl ?_
 intro l ρ s hs p hp a1 ha1 a2 ha2 a3 ha3 a4 ha4 kd hkd a6 ha6 ty hty co hco sq hsq ac hac wi hwi le hle q0 hq0 q1 hq1 q2 hq2 q3 hq3 q4 hq4 qk hqk hpp hSS _
 obtain ⟨y0, z⟩ := ix_p p
 have z := z hp
 refine ⟨?_, ?_⟩ <;> simp (disch := omega) only [ewZ, reduceCtorEq, seval, hSS, z]
 ·exact y0
 ·refine v23 rfl fun c => ?_
  show _ = (if p = 6 then a6 % 64 else (0 : Int))
  have g := u8r ha6
  by_cases h : p = 6
  ·rw [if_pos h, if_pos h, u32w (by omega) (by omega), and32 (by omega) (by omega), show (63 : Int).toNat = 2 ^ 6 - 1 from rfl, Nat.and_two_pow_sub_one_eq_mod]
   omega
  ·rw [if_neg h, if_neg h]
end
end Go.Proofs.YtgpflpbldeflhaaDoor.Ew.Sr
set_option maxHeartbeats 8000000
namespace Go.Proofs.YtgpflpbldeflhaaDoor.Ew.Sr
open Go Go.RowKit
noncomputable section
def k7 : List Nat := [0, 1, 2, 3, 4, 5, 6]
def c37 : Ctx := ⟨[e16, e60, e230, e231, e232, e233, e234, e235, e236], []⟩
def PT (xs ys : List Int) : Prop := (¬ tabR (xs.take 8) /\ ys = [0, 0, 0, 0, 280]) \/ (tabR (xs.take 8) /\ ¬ pktP (env xs 8) (xs.drop 9) /\ ys = [0, 0, 0, 0, 261]) \/
 (tabR (xs.take 8) /\ pktP (env xs 8) (xs.drop 9) /\ env ys 4 = 0 /\ setOK (ys.take 4) /\ ∀ i, i < 256 -> bitS (ys.take 4) i = Dw (tabs xs) (env xs 8) (xs.drop 9) i)
def b37 : Ent := ⟨37, 37, [tab, u8, fa], [], k7, .tup [se4, i64], z0, pre16⟩
def e37 : Ent := b37.fw (fnG Tryd.prog G0 b37 PT)
def lnt : Sh := .lst 3 (.ofKs [.i .i64]) true
def Aq (l : List Nat) : RL := l.map fun i : Nat => ([(i : Int)] : List Int)
def preA3 (xs : List Int) : Prop := setOK [env xs 0, env xs 1, env xs 2, env xs 3] /\ 0 <= env xs 5 /\ env xs 5 <= 256 /\ 0 <= env xs 6 /\ env xs 6 <= env xs 5 /\ ((dc (env xs 4)).length : Int) <= env xs 6
def KJ (xs ys : List Int) : Prop := dc (env ys 0) = dc (env xs 4) ++ Aq (((List.range (env xs 5).toNat).drop (env xs 6).toNat).filter (bitS [env xs 0, env xs 1, env xs 2, env xs 3]))
def muA3 (xs : List Int) : Nat := (env xs 5 - env xs 6).toNat
def pA3 : List Bool := [true,true,true,true,false,true,false]
def lbA3 : LEnt := ⟨⟨9013, 999999, [seS, lnt, i64, i64], [], [0], .tup [lnt], z0, preA3⟩, [8, 10, 23, 24], [10], [11] ++ (List.range 17).map (· + 24), [.ex 0], 42, []⟩
def leA3 : LEnt := lbA3.fw (fnM Tryd.prog G0 13 pA3 lbA3 KJ)
def c13 : Ctx := ⟨[e37], [(13, pA3, leA3)]⟩
def PU (xs ys : List Int) : Prop := (¬ tabR (xs.take 8) /\ dc (env ys 0) = [] /\ env ys 1 = 280) \/ (tabR (xs.take 8) /\ ¬ pktP (env xs 8) (xs.drop 9) /\ dc (env ys 0) = [] /\ env ys 1 = 261) \/
 (tabR (xs.take 8) /\ pktP (env xs 8) (xs.drop 9) /\ dc (env ys 0) = Aq (allF (env xs 0).toNat (tabs xs) (env xs 8) (xs.drop 9)) /\ env ys 1 = 0)
def b13 : Ent := ⟨13, 13, [tab, u8, fa], [], k7, .tup [lnt, i64], z0, pre16⟩
def e13 : Ent := b13.fw (fnG Tryd.prog G0 b13 PU)
def c15 : Ctx := ⟨[e13], []⟩
def KK (xs ys : List Int) : Prop := (¬ tabR (xs.take 8) /\ ys = [-1, 280]) \/ (tabR (xs.take 8) /\ ¬ pktP (env xs 8) (xs.drop 9) /\ ys = [-1, 261]) \/
 (tabR (xs.take 8) /\ pktP (env xs 8) (xs.drop 9) /\ ys = [firI (allF (env xs 0).toNat (tabs xs) (env xs 8) (xs.drop 9)), 0])
def b15 : Ent := ⟨15, 15, [tab, u8, fa], [], k7, .tup [i64, i64], z0, pre16⟩
def e15 : Ent := b15.fw (fnG Tryd.prog G0 b15 KK)
theorem c37ok : c37.OK Tryd.prog G0 := ⟨rfl, mF ⟨ok16.1, ok60.1, ok230Z.1.1, ok231.1, ok232Z.1.1, ok232Z.2.1, ok230Z.2.1.1, ok230Z.2.2.1, ok236.1, trivial⟩, mF trivial⟩
theorem PV {s : Int} {f : List Int} (hs : IntKind.u8.wrap s = s) (hp : pktP s f) (hf : fits facK f) : Iq s f := by
 have h0 := u8r hs
 obtain ⟨p, r, rfl, g0, hf⟩ := Aa hf
 obtain ⟨a1, r, rfl, g1, hf⟩ := Aa hf
 obtain ⟨a2, r, rfl, g2, hf⟩ := Aa hf
 obtain ⟨a3, r, rfl, g3, hf⟩ := Aa hf
 obtain ⟨a4, r, rfl, g4, hf⟩ := Aa hf
 obtain ⟨kd, r, rfl, g5, hf⟩ := Aa hf
 obtain ⟨a6, r, rfl, g6, hf⟩ := Aa hf
 have e1 := u32r (show IntKind.u32.wrap a1 = a1 from g1)
 have e2 := u32r (show IntKind.u32.wrap a2 = a2 from g2)
 have e3 := u16r (show IntKind.u16.wrap a3 = a3 from g3)
 have e4 := u16r (show IntKind.u16.wrap a4 = a4 from g4)
 have h1 := hp.1
 intro k hk
 match k, hk with
 | 0, _ => exact ⟨h0.1, h1⟩
 | 1, _ =>
   show 0 <= (if p = 1 then (0 : Int) else if p = 6 then 1 else 2) /\ (if p = 1 then (0 : Int) else if p = 6 then 1 else 2) <= 2
   repeat' split
   all_goals omega
 | 2, _ => exact e1
 | 3, _ => exact e2
 | 4, _ => exact e3
 | 5, _ => exact e4
 | 6, _ =>
   show 0 <= (if p = 6 then a6 % 64 else (0 : Int)) /\ (if p = 6 then a6 % 64 else (0 : Int)) <= 63
   split <;> omega
theorem ok37 : EPz e37 PT := by
 refine c37ok.nm.entryK false [(100000016, e16.nm), (100000060, e60.nm), (100002300, e230.nm), (100002301, e231.nm), (100002302, e232.nm), (100002303, e233.nm), (100002304, e234.nm), (100002305, e235.nm), (100002306, e236.nm)] ?_
 go_invoke
 refine enK rfl ?_
 intro l ρ n hn l0 l1 l2 l3 l4 l5 l6 s hs a0 ha0 a1 ha1 a2 ha2 a3 ha3 a4 ha4 kd hkd a6 ha6 ty hty co hco sq hsq ac hac wi hwi le hle w0 hw0 w1 hw1 w2 hw2 w3 hw3 w4 hw4 wk hwk hp v1 hn1 v2 hn2 v3 hn3 v4 hn4 v5 hn5 v6 hn6 v7 hn7 v8 hn8 v9 hn9 v10 hn10 v11 hn11 v12 hn12 v13 hn13 v14 hn14 v15 hn15 v16 hn16 v17 hn17 v18 hn18 v19 hn19 v20 hn20 v21 hn21 v22 hn22 hSS hd
 simp (disch := omega) only [and_true, Ent.nm_fn, hSS, ewZ, reduceCtorEq, seval] at hd
 obtain ⟨hd1, hd2, hd3, hd4, hd5, hd6, hd7, hd8, hd9, hd10, hd11, hd12, hd13, hd14, hd15, hd16, hd17, hd18, hd19, hd20, hd21, hd22⟩ := hd
 have h16 : pre16 [n, l0, l1, l2, l3, l4, l5, l6] := fun k hk => match k, hk with
  | 0, _ => hp 0 (by decide)
  | 1, _ => hp 1 (by decide)
  | 2, _ => hp 2 (by decide)
  | 3, _ => hp 3 (by decide)
  | 4, _ => hp 4 (by decide)
  | 5, _ => hp 5 (by decide)
  | 6, _ => hp 6 (by decide)
 have p0 : rowsOK clK (dc l0) /\ ((dc l0).length : Int) <= 1000000 := hp 0 (by decide)
 have wl0 : IntKind.i64.wrap ((dc l0).length : Int) = (dc l0).length := i64w (by omega) (by have := p0.2; omega)
 have p1 : rowsOK clK (dc l1) /\ ((dc l1).length : Int) <= 1000000 := hp 1 (by decide)
 have wl1 : IntKind.i64.wrap ((dc l1).length : Int) = (dc l1).length := i64w (by omega) (by have := p1.2; omega)
 have p2 : rowsOK clK (dc l2) /\ ((dc l2).length : Int) <= 1000000 := hp 2 (by decide)
 have wl2 : IntKind.i64.wrap ((dc l2).length : Int) = (dc l2).length := i64w (by omega) (by have := p2.2; omega)
 have p3 : rowsOK clK (dc l3) /\ ((dc l3).length : Int) <= 1000000 := hp 3 (by decide)
 have wl3 : IntKind.i64.wrap ((dc l3).length : Int) = (dc l3).length := i64w (by omega) (by have := p3.2; omega)
 have p4 : rowsOK clK (dc l4) /\ ((dc l4).length : Int) <= 1000000 := hp 4 (by decide)
 have wl4 : IntKind.i64.wrap ((dc l4).length : Int) = (dc l4).length := i64w (by omega) (by have := p4.2; omega)
 have p5 : rowsOK clK (dc l5) /\ ((dc l5).length : Int) <= 1000000 := hp 5 (by decide)
 have wl5 : IntKind.i64.wrap ((dc l5).length : Int) = (dc l5).length := i64w (by omega) (by have := p5.2; omega)
 have p6 : rowsOK clK (dc l6) /\ ((dc l6).length : Int) <= 1000000 := hp 6 (by decide)
 have wl6 : IntKind.i64.wrap ((dc l6).length : Int) = (dc l6).length := i64w (by omega) (by have := p6.2; omega)
 have hff : fits facK [a0, a1, a2, a3, a4, kd, a6, ty, co, sq, ac, wi, le, w0, w1, w2, w3, w4, wk] := ⟨ha0, ha1, ha2, ha3, ha4, hkd, ha6, hty, hco, hsq, hac, hwi, hle, hw0, hw1, hw2, hw3, hw4, hwk, trivial⟩
 have z := (PostOK.usf (vs := [v1]) ok16.2 ⟨hd1, trivial⟩) ⟨hn, rfl, rfl, rfl, rfl, rfl, rfl, rfl, trivial⟩ h16
 replace z : (v1 = 1 /\ tabR [n, l0, l1, l2, l3, l4, l5, l6]) \/ (v1 = 0 /\ ¬ tabR [n, l0, l1, l2, l3, l4, l5, l6]) := z
 have q0 := (PostOK.usf (vs := [v2, v3]) ok230Z.1.2 ⟨hd2, hd3, trivial⟩) ⟨hs, ha0, ha1, ha2, ha3, ha4, hkd, ha6, hty, hco, hsq, hac, hwi, hle, hw0, hw1, hw2, hw3, hw4, hwk, trivial⟩ trivial
 replace q0 : (v3 = 1 /\ pktP s [a0, a1, a2, a3, a4, kd, a6, ty, co, sq, ac, wi, le, w0, w1, w2, w3, w4, wk] /\ v2 = valF 0 s [a0, a1, a2, a3, a4, kd, a6, ty, co, sq, ac, wi, le, w0, w1, w2, w3, w4, wk]) \/ (v3 = 0 /\ ¬ pktP s [a0, a1, a2, a3, a4, kd, a6, ty, co, sq, ac, wi, le, w0, w1, w2, w3, w4, wk] /\ v2 = 0) := q0
 have q1 := (PostOK.usf (vs := [v5, v6]) ok231.2 ⟨hd5, hd6, trivial⟩) ⟨hs, ha0, ha1, ha2, ha3, ha4, hkd, ha6, hty, hco, hsq, hac, hwi, hle, hw0, hw1, hw2, hw3, hw4, hwk, trivial⟩ trivial
 replace q1 : (v6 = 1 /\ pktP s [a0, a1, a2, a3, a4, kd, a6, ty, co, sq, ac, wi, le, w0, w1, w2, w3, w4, wk] /\ v5 = valF 1 s [a0, a1, a2, a3, a4, kd, a6, ty, co, sq, ac, wi, le, w0, w1, w2, w3, w4, wk]) \/ (v6 = 0 /\ ¬ pktP s [a0, a1, a2, a3, a4, kd, a6, ty, co, sq, ac, wi, le, w0, w1, w2, w3, w4, wk] /\ v5 = 0) := q1
 have q2 := (PostOK.usf (vs := [v8, v9]) ok232Z.1.2 ⟨hd8, hd9, trivial⟩) ⟨hs, ha0, ha1, ha2, ha3, ha4, hkd, ha6, hty, hco, hsq, hac, hwi, hle, hw0, hw1, hw2, hw3, hw4, hwk, trivial⟩ trivial
 replace q2 : (v9 = 1 /\ pktP s [a0, a1, a2, a3, a4, kd, a6, ty, co, sq, ac, wi, le, w0, w1, w2, w3, w4, wk] /\ v8 = valF 2 s [a0, a1, a2, a3, a4, kd, a6, ty, co, sq, ac, wi, le, w0, w1, w2, w3, w4, wk]) \/ (v9 = 0 /\ ¬ pktP s [a0, a1, a2, a3, a4, kd, a6, ty, co, sq, ac, wi, le, w0, w1, w2, w3, w4, wk] /\ v8 = 0) := q2
 have q3 := (PostOK.usf (vs := [v11, v12]) ok232Z.2.2 ⟨hd11, hd12, trivial⟩) ⟨hs, ha0, ha1, ha2, ha3, ha4, hkd, ha6, hty, hco, hsq, hac, hwi, hle, hw0, hw1, hw2, hw3, hw4, hwk, trivial⟩ trivial
 replace q3 : (v12 = 1 /\ pktP s [a0, a1, a2, a3, a4, kd, a6, ty, co, sq, ac, wi, le, w0, w1, w2, w3, w4, wk] /\ v11 = valF 3 s [a0, a1, a2, a3, a4, kd, a6, ty, co, sq, ac, wi, le, w0, w1, w2, w3, w4, wk]) \/ (v12 = 0 /\ ¬ pktP s [a0, a1, a2, a3, a4, kd, a6, ty, co, sq, ac, wi, le, w0, w1, w2, w3, w4, wk] /\ v11 = 0) := q3
 have q4 := (PostOK.usf (vs := [v14, v15]) ok230Z.2.1.2 ⟨hd14, hd15, trivial⟩) ⟨hs, ha0, ha1, ha2, ha3, ha4, hkd, ha6, hty, hco, hsq, hac, hwi, hle, hw0, hw1, hw2, hw3, hw4, hwk, trivial⟩ trivial
 replace q4 : (v15 = 1 /\ pktP s [a0, a1, a2, a3, a4, kd, a6, ty, co, sq, ac, wi, le, w0, w1, w2, w3, w4, wk] /\ v14 = valF 4 s [a0, a1, a2, a3, a4, kd, a6, ty, co, sq, ac, wi, le, w0, w1, w2, w3, w4, wk]) \/ (v15 = 0 /\ ¬ pktP s [a0, a1, a2, a3, a4, kd, a6, ty, co, sq, ac, wi, le, w0, w1, w2, w3, w4, wk] /\ v14 = 0) := q4
 have q5 := (PostOK.usf (vs := [v17, v18]) ok230Z.2.2.2 ⟨hd17, hd18, trivial⟩) ⟨hs, ha0, ha1, ha2, ha3, ha4, hkd, ha6, hty, hco, hsq, hac, hwi, hle, hw0, hw1, hw2, hw3, hw4, hwk, trivial⟩ trivial
 replace q5 : (v18 = 1 /\ pktP s [a0, a1, a2, a3, a4, kd, a6, ty, co, sq, ac, wi, le, w0, w1, w2, w3, w4, wk] /\ v17 = valF 5 s [a0, a1, a2, a3, a4, kd, a6, ty, co, sq, ac, wi, le, w0, w1, w2, w3, w4, wk]) \/ (v18 = 0 /\ ¬ pktP s [a0, a1, a2, a3, a4, kd, a6, ty, co, sq, ac, wi, le, w0, w1, w2, w3, w4, wk] /\ v17 = 0) := q5
 have q6 := (PostOK.usf (vs := [v20, v21]) ok236.2 ⟨hd20, hd21, trivial⟩) ⟨hs, ha0, ha1, ha2, ha3, ha4, hkd, ha6, hty, hco, hsq, hac, hwi, hle, hw0, hw1, hw2, hw3, hw4, hwk, trivial⟩ trivial
 replace q6 : (v21 = 1 /\ pktP s [a0, a1, a2, a3, a4, kd, a6, ty, co, sq, ac, wi, le, w0, w1, w2, w3, w4, wk] /\ v20 = valF 6 s [a0, a1, a2, a3, a4, kd, a6, ty, co, sq, ac, wi, le, w0, w1, w2, w3, w4, wk]) \/ (v21 = 0 /\ ¬ pktP s [a0, a1, a2, a3, a4, kd, a6, ty, co, sq, ac, wi, le, w0, w1, w2, w3, w4, wk] /\ v20 = 0) := q6
 rcases z with ⟨rfl, zR⟩ | ⟨rfl, zR⟩
 rotate_left
 ·refine ⟨?_, ?_⟩ <;> simp (disch := omega) only [ewZ, reduceCtorEq, seval, hSS]
  ·exact h16
  ·exact Or.inl ⟨zR, rfl⟩
 by_cases hP : pktP s [a0, a1, a2, a3, a4, kd, a6, ty, co, sq, ac, wi, le, w0, w1, w2, w3, w4, wk]
 rotate_left
 ·obtain ⟨hk, _, _⟩ := q0.resolve_left fun h => hP h.2.1
  refine ⟨?_, ?_⟩ <;> simp (disch := omega) only [ewZ, reduceCtorEq, seval, hSS, hk]
  ·exact ⟨h16, trivial⟩
  ·exact Or.inr (Or.inl ⟨zR, hP, rfl⟩)
 have hV := PV hs hP hff
 obtain ⟨hk0, _, hv0_⟩ := q0.resolve_right fun h => h.2.1 hP
 have g0 : fldR (AE 0) (beyF n.toNat [0, 0, 0, 0]) (dc l0) := zR.2.2 0 (by decide)
 have y0 : e60.pre [((dc l0).length : Int), l0, v2] := ⟨p0.1, g0.ord, p0.2, rfl⟩
 simp only [wl0] at hd4
 have x0 := (PostOK.usf (vs := [v4]) ok60.2 ⟨hd4, trivial⟩) ⟨wl0, rfl, hn2, trivial⟩ y0
 replace x0 : cutP (dc l0) v2 v4 := x0
 rw [hv0_] at x0
 obtain ⟨n0, s0⟩ := x0.sel g0 (hV 0 (by decide)).1
 have j0 := x0.2.1
 have wn0 : IntKind.i64.wrap (v4 - 1) = v4 - 1 := i64w (by omega) (by have := p0.2; omega)
 obtain ⟨b00, b01, b02, b03, b04, er0, _, o0⟩ := AJ p0.1 (i := (v4 - 1).toNat) (by omega)
 rw [er0, List.drop_succ_cons, List.drop_zero] at s0
 have o01 := o0.2 b01 (by simp)
 have o02 := o0.2 b02 (by simp)
 have o03 := o0.2 b03 (by simp)
 have o04 := o0.2 b04 (by simp)
 obtain ⟨hk1, _, hv1_⟩ := q1.resolve_right fun h => h.2.1 hP
 have g1 : fldR (AE 1) (beyF n.toNat [0, 0, 0, 0]) (dc l1) := zR.2.2 1 (by decide)
 have y1 : e60.pre [((dc l1).length : Int), l1, v5] := ⟨p1.1, g1.ord, p1.2, rfl⟩
 simp only [wl1] at hd7
 have x1 := (PostOK.usf (vs := [v7]) ok60.2 ⟨hd7, trivial⟩) ⟨wl1, rfl, hn5, trivial⟩ y1
 replace x1 : cutP (dc l1) v5 v7 := x1
 rw [hv1_] at x1
 obtain ⟨n1, s1⟩ := x1.sel g1 (hV 1 (by decide)).1
 have j1 := x1.2.1
 have wn1 : IntKind.i64.wrap (v7 - 1) = v7 - 1 := i64w (by omega) (by have := p1.2; omega)
 obtain ⟨b10, b11, b12, b13, b14, er1, _, o1⟩ := AJ p1.1 (i := (v7 - 1).toNat) (by omega)
 rw [er1, List.drop_succ_cons, List.drop_zero] at s1
 have o11 := o1.2 b11 (by simp)
 have o12 := o1.2 b12 (by simp)
 have o13 := o1.2 b13 (by simp)
 have o14 := o1.2 b14 (by simp)
 obtain ⟨hk2, _, hv2_⟩ := q2.resolve_right fun h => h.2.1 hP
 have g2 : fldR (AE 2) (beyF n.toNat [0, 0, 0, 0]) (dc l2) := zR.2.2 2 (by decide)
 have y2 : e60.pre [((dc l2).length : Int), l2, v8] := ⟨p2.1, g2.ord, p2.2, rfl⟩
 simp only [wl2] at hd10
 have x2 := (PostOK.usf (vs := [v10]) ok60.2 ⟨hd10, trivial⟩) ⟨wl2, rfl, hn8, trivial⟩ y2
 replace x2 : cutP (dc l2) v8 v10 := x2
 rw [hv2_] at x2
 obtain ⟨n2, s2⟩ := x2.sel g2 (hV 2 (by decide)).1
 have j2 := x2.2.1
 have wn2 : IntKind.i64.wrap (v10 - 1) = v10 - 1 := i64w (by omega) (by have := p2.2; omega)
 obtain ⟨b20, b21, b22, b23, b24, er2, _, o2⟩ := AJ p2.1 (i := (v10 - 1).toNat) (by omega)
 rw [er2, List.drop_succ_cons, List.drop_zero] at s2
 have o21 := o2.2 b21 (by simp)
 have o22 := o2.2 b22 (by simp)
 have o23 := o2.2 b23 (by simp)
 have o24 := o2.2 b24 (by simp)
 obtain ⟨hk3, _, hv3_⟩ := q3.resolve_right fun h => h.2.1 hP
 have g3 : fldR (AE 3) (beyF n.toNat [0, 0, 0, 0]) (dc l3) := zR.2.2 3 (by decide)
 have y3 : e60.pre [((dc l3).length : Int), l3, v11] := ⟨p3.1, g3.ord, p3.2, rfl⟩
 simp only [wl3] at hd13
 have x3 := (PostOK.usf (vs := [v13]) ok60.2 ⟨hd13, trivial⟩) ⟨wl3, rfl, hn11, trivial⟩ y3
 replace x3 : cutP (dc l3) v11 v13 := x3
 rw [hv3_] at x3
 obtain ⟨n3, s3⟩ := x3.sel g3 (hV 3 (by decide)).1
 have j3 := x3.2.1
 have wn3 : IntKind.i64.wrap (v13 - 1) = v13 - 1 := i64w (by omega) (by have := p3.2; omega)
 obtain ⟨b30, b31, b32, b33, b34, er3, _, o3⟩ := AJ p3.1 (i := (v13 - 1).toNat) (by omega)
 rw [er3, List.drop_succ_cons, List.drop_zero] at s3
 have o31 := o3.2 b31 (by simp)
 have o32 := o3.2 b32 (by simp)
 have o33 := o3.2 b33 (by simp)
 have o34 := o3.2 b34 (by simp)
 obtain ⟨hk4, _, hv4_⟩ := q4.resolve_right fun h => h.2.1 hP
 have g4 : fldR (AE 4) (beyF n.toNat [0, 0, 0, 0]) (dc l4) := zR.2.2 4 (by decide)
 have y4 : e60.pre [((dc l4).length : Int), l4, v14] := ⟨p4.1, g4.ord, p4.2, rfl⟩
 simp only [wl4] at hd16
 have x4 := (PostOK.usf (vs := [v16]) ok60.2 ⟨hd16, trivial⟩) ⟨wl4, rfl, hn14, trivial⟩ y4
 replace x4 : cutP (dc l4) v14 v16 := x4
 rw [hv4_] at x4
 obtain ⟨n4, s4⟩ := x4.sel g4 (hV 4 (by decide)).1
 have j4 := x4.2.1
 have wn4 : IntKind.i64.wrap (v16 - 1) = v16 - 1 := i64w (by omega) (by have := p4.2; omega)
 obtain ⟨b40, b41, b42, b43, b44, er4, _, o4⟩ := AJ p4.1 (i := (v16 - 1).toNat) (by omega)
 rw [er4, List.drop_succ_cons, List.drop_zero] at s4
 have o41 := o4.2 b41 (by simp)
 have o42 := o4.2 b42 (by simp)
 have o43 := o4.2 b43 (by simp)
 have o44 := o4.2 b44 (by simp)
 obtain ⟨hk5, _, hv5_⟩ := q5.resolve_right fun h => h.2.1 hP
 have g5 : fldR (AE 5) (beyF n.toNat [0, 0, 0, 0]) (dc l5) := zR.2.2 5 (by decide)
 have y5 : e60.pre [((dc l5).length : Int), l5, v17] := ⟨p5.1, g5.ord, p5.2, rfl⟩
 simp only [wl5] at hd19
 have x5 := (PostOK.usf (vs := [v19]) ok60.2 ⟨hd19, trivial⟩) ⟨wl5, rfl, hn17, trivial⟩ y5
 replace x5 : cutP (dc l5) v17 v19 := x5
 rw [hv5_] at x5
 obtain ⟨n5, s5⟩ := x5.sel g5 (hV 5 (by decide)).1
 have j5 := x5.2.1
 have wn5 : IntKind.i64.wrap (v19 - 1) = v19 - 1 := i64w (by omega) (by have := p5.2; omega)
 obtain ⟨b50, b51, b52, b53, b54, er5, _, o5⟩ := AJ p5.1 (i := (v19 - 1).toNat) (by omega)
 rw [er5, List.drop_succ_cons, List.drop_zero] at s5
 have o51 := o5.2 b51 (by simp)
 have o52 := o5.2 b52 (by simp)
 have o53 := o5.2 b53 (by simp)
 have o54 := o5.2 b54 (by simp)
 obtain ⟨hk6, _, hv6_⟩ := q6.resolve_right fun h => h.2.1 hP
 have g6 : fldR (AE 6) (beyF n.toNat [0, 0, 0, 0]) (dc l6) := zR.2.2 6 (by decide)
 have y6 : e60.pre [((dc l6).length : Int), l6, v20] := ⟨p6.1, g6.ord, p6.2, rfl⟩
 simp only [wl6] at hd22
 have x6 := (PostOK.usf (vs := [v22]) ok60.2 ⟨hd22, trivial⟩) ⟨wl6, rfl, hn20, trivial⟩ y6
 replace x6 : cutP (dc l6) v20 v22 := x6
 rw [hv6_] at x6
 obtain ⟨n6, s6⟩ := x6.sel g6 (hV 6 (by decide)).1
 have j6 := x6.2.1
 have wn6 : IntKind.i64.wrap (v22 - 1) = v22 - 1 := i64w (by omega) (by have := p6.2; omega)
 obtain ⟨b60, b61, b62, b63, b64, er6, _, o6⟩ := AJ p6.1 (i := (v22 - 1).toNat) (by omega)
 rw [er6, List.drop_succ_cons, List.drop_zero] at s6
 have o61 := o6.2 b61 (by simp)
 have o62 := o6.2 b62 (by simp)
 have o63 := o6.2 b63 (by simp)
 have o64 := o6.2 b64 (by simp)
 refine ⟨?_, ?_⟩ <;> simp (disch := omega) only [ewZ, reduceCtorEq, seval, hSS, hk0, wl0, wn0, er0, o01, o02, o03, o04, hk1, wl1, wn1, er1, o11, o12, o13, o14, hk2, wl2, wn2, er2, o21, o22, o23, o24, hk3, wl3, wn3, er3, o31, o32, o33, o34, hk4, wl4, wn4, er4, o41, o42, o43, o44, hk5, wl5, wn5, er5, o51, o52, o53, o54, hk6, wl6, wn6, er6, o61, o62, o63, o64]
 ·exact ⟨h16, ⟨trivial, y0, by omega, by omega⟩, ⟨trivial, y1, by omega, by omega⟩, ⟨trivial, y2, by omega, by omega⟩, ⟨trivial, y3, by omega, by omega⟩, ⟨trivial, y4, by omega, by omega⟩, ⟨trivial, y5, by omega, by omega⟩, trivial, y6, by omega, by omega⟩
 ·obtain ⟨A1, A2⟩ := and7 o0 o1 o2 o3 o4 o5 o6
  refine Or.inr (Or.inr ⟨zR, hP, rfl, A1, fun i hi => ?_⟩)
  refine (A2 i hi).trans ?_
  show _ = Dw [dc l0, dc l1, dc l2, dc l3, dc l4, dc l5, dc l6] s [a0, a1, a2, a3, a4, kd, a6, ty, co, sq, ac, wi, le, w0, w1, w2, w3, w4, wk] i
  rw [TF]
  show _ = (bitS (selR (dc l0) (valF 0 s [a0, a1, a2, a3, a4, kd, a6, ty, co, sq, ac, wi, le, w0, w1, w2, w3, w4, wk])) i && (bitS (selR (dc l1) (valF 1 s [a0, a1, a2, a3, a4, kd, a6, ty, co, sq, ac, wi, le, w0, w1, w2, w3, w4, wk])) i && (bitS (selR (dc l2) (valF 2 s [a0, a1, a2, a3, a4, kd, a6, ty, co, sq, ac, wi, le, w0, w1, w2, w3, w4, wk])) i && (bitS (selR (dc l3) (valF 3 s [a0, a1, a2, a3, a4, kd, a6, ty, co, sq, ac, wi, le, w0, w1, w2, w3, w4, wk])) i && (bitS (selR (dc l4) (valF 4 s [a0, a1, a2, a3, a4, kd, a6, ty, co, sq, ac, wi, le, w0, w1, w2, w3, w4, wk])) i && (bitS (selR (dc l5) (valF 5 s [a0, a1, a2, a3, a4, kd, a6, ty, co, sq, ac, wi, le, w0, w1, w2, w3, w4, wk])) i && bitS (selR (dc l6) (valF 6 s [a0, a1, a2, a3, a4, kd, a6, ty, co, sq, ac, wi, le, w0, w1, w2, w3, w4, wk])) i))))))
  rw [s0, s1, s2, s3, s4, s5, s6]
theorem okA3 : IPz 13 pA3 leA3 KJ := by
 refine Ctx.OK.nil.loopK muA3 false 9013 [] ⟨_, _, _, Tryd.func13, rfl, rfl⟩ ?_
 go_invoke
 refine enK rfl ?_
 intro φ l ρ q0 hq0 q1 hq1 q2 hq2 q3 hq3 O n hn i hi hp hφ hSS _
 obtain ⟨p1, p2, p3, p4, p5, p6⟩ := hp
 replace p1 : setOK [q0, q1, q2, q3] := p1
 simp only [ewY, seval] at p2 p3 p4 p5 p6
 by_cases c : i < n
 ·have hdr : (List.range n.toNat).drop i.toNat = i.toNat :: (List.range n.toNat).drop (i + 1).toNat := by
   rw [List.drop_eq_getElem_cons (by simp; omega), List.getElem_range, show (i + 1).toNat = i.toNat + 1 by omega]
  have ei : ((i.toNat : Nat) : Int) = i := by omega
  have w0 : IntKind.i64.wrap (i + 1) = i + 1 := i64w (by omega) (by omega)
  have nx : ∀ O' : Int, dc O' = dc O ++ (if bitS [q0, q1, q2, q3] i.toNat = true then [[i]] else []) -> (lbA3.ent.pre [q0, q1, q2, q3, O', n, i + 1] /\ muA3 [q0, q1, q2, q3, O', n, i + 1] < muA3 [q0, q1, q2, q3, O, n, i]) /\ KJ [q0, q1, q2, q3, O, n, i] [φ 0 [q0, q1, q2, q3, O', n, i + 1]] := fun O' h => by
   have hl : ((dc O').length : Int) <= i + 1 := by
    rw [h, List.length_append]
    split <;> simp <;> omega
   have yp : lbA3.ent.pre [q0, q1, q2, q3, O', n, i + 1] := ⟨p1, p2, p3, by show 0 <= i + 1; omega, by show i + 1 <= n; omega, hl⟩
   have ym : muA3 [q0, q1, q2, q3, O', n, i + 1] < muA3 [q0, q1, q2, q3, O, n, i] := by show (n - (i + 1)).toNat < (n - i).toNat; omega
   have ih := hφ [q0, q1, q2, q3, O', n, i + 1] ⟨hq0, hq1, hq2, hq3, rfl, hn, w0, trivial⟩ yp ym
   refine ⟨⟨yp, ym⟩, ?_⟩
   have ih : dc (φ 0 [q0, q1, q2, q3, O', n, i + 1]) = dc O' ++ Aq (((List.range n.toNat).drop (i + 1).toNat).filter (bitS [q0, q1, q2, q3])) := ih
   show dc (φ 0 [q0, q1, q2, q3, O', n, i + 1]) = dc O ++ Aq (((List.range n.toNat).drop i.toNat).filter (bitS [q0, q1, q2, q3]))
   rw [ih, h, hdr, List.filter_cons, List.append_assoc]
   congr 1
   split
   ·unfold Aq
    rw [List.map_cons, ei]; rfl
   ·rfl
  obtain ⟨D, hD⟩ : ∃ D, i / 64 = D := ⟨_, rfl⟩
  have e1 : i.tdiv 64 = D := by rw [Int.tdiv_eq_ediv_of_nonneg p4]; exact hD
  have e2 : IntKind.i64.wrap D = D := i64w (by omega) (by omega)
  have e3 : IntKind.u8.wrap D = D := u8w (by omega) (by omega)
  have e4 : D.tmod 4 = D := by rw [Int.tmod_eq_emod_of_nonneg (by omega)]; omega
  have e6 : i.tmod 64 = i % 64 := Int.tmod_eq_emod_of_nonneg p4
  have hm : 0 <= i % 64 := by omega
  have hbit : ∀ x : Int, IntKind.u64.wrap x = x -> [q0, q1, q2, q3].getD D.toNat 0 = x -> (bitsI .and .u64 (x.fdiv (2 ^ min (i % 64).toNat IntKind.u64.bits)) 1 = 1 ↔ bitS [q0, q1, q2, q3] i.toNat = true) := fun x hx h => by
   have e : x.fdiv (2 ^ min (i % 64).toNat IntKind.u64.bits) = x / 2 ^ (i.toNat % 64) := by
    rw [show min (i % 64).toNat IntKind.u64.bits = i.toNat % 64 by show min (i % 64).toNat 64 = _; omega]
    exact Int.fdiv_eq_ediv_of_nonneg _ (Int.le_of_lt (Int.pow_pos (by decide)))
   have hx' := hx
   rw [IntKind.wrap_u64] at hx'
   have w : IntKind.u64.wrap (x / 2 ^ (i.toNat % 64)) = x / 2 ^ (i.toNat % 64) := by
    have g1 : 0 <= x / 2 ^ (i.toNat % 64) := Int.ediv_nonneg (by omega) (Int.le_of_lt (Int.pow_pos (by decide)))
    have g2 : x / 2 ^ (i.toNat % 64) <= x := Int.ediv_le_self _ (by omega)
    exact u64w g1 (by omega)
   unfold bitS
   rw [show i.toNat / 64 = D.toNat by omega, h, <- L0 hx, e, w, beq_iff_eq]
  have hY : dc (cd (dc O ++ [[i]])) = dc O ++ [[i]] := Ab _
  have hL : ((dc O ++ [[i]]).length : Int) <= 17592186044416 := by simp; omega
  rcases (show D = 0 \/ D = 1 \/ D = 2 \/ D = 3 by omega) with rfl | rfl | rfl | rfl
  ·have hb := hbit q0 hq0 rfl
   by_cases hB : bitS [q0, q1, q2, q3] i.toNat = true
   ·have hb := hb.2 hB
    have y := nx (cd (dc O ++ [[i]])) (by rw [hY, if_pos hB])
    refine ⟨?_, ?_⟩ <;> simp (disch := omega) only [ewZ, reduceCtorEq, seval, hSS, c, e1, e2, e3, e4, e6, w0, hb]
    ·exact ⟨⟨hm, hL⟩, y.1⟩
    ·exact y.2
   ·have hb := (not_congr hb).2 hB
    have y := nx O (by rw [if_neg hB, List.append_nil])
    refine ⟨?_, ?_⟩ <;> simp (disch := omega) only [ewZ, reduceCtorEq, seval, hSS, c, e1, e2, e3, e4, e6, w0, hb]
    ·exact ⟨hm, y.1⟩
    ·exact y.2
  ·have hb := hbit q1 hq1 rfl
   by_cases hB : bitS [q0, q1, q2, q3] i.toNat = true
   ·have hb := hb.2 hB
    have y := nx (cd (dc O ++ [[i]])) (by rw [hY, if_pos hB])
    refine ⟨?_, ?_⟩ <;> simp (disch := omega) only [ewZ, reduceCtorEq, seval, hSS, c, e1, e2, e3, e4, e6, w0, hb]
    ·exact ⟨⟨hm, hL⟩, y.1⟩
    ·exact y.2
   ·have hb := (not_congr hb).2 hB
    have y := nx O (by rw [if_neg hB, List.append_nil])
    refine ⟨?_, ?_⟩ <;> simp (disch := omega) only [ewZ, reduceCtorEq, seval, hSS, c, e1, e2, e3, e4, e6, w0, hb]
    ·exact ⟨hm, y.1⟩
    ·exact y.2
  ·have hb := hbit q2 hq2 rfl
   by_cases hB : bitS [q0, q1, q2, q3] i.toNat = true
   ·have hb := hb.2 hB
    have y := nx (cd (dc O ++ [[i]])) (by rw [hY, if_pos hB])
    refine ⟨?_, ?_⟩ <;> simp (disch := omega) only [ewZ, reduceCtorEq, seval, hSS, c, e1, e2, e3, e4, e6, w0, hb]
    ·exact ⟨⟨hm, hL⟩, y.1⟩
    ·exact y.2
   ·have hb := (not_congr hb).2 hB
    have y := nx O (by rw [if_neg hB, List.append_nil])
    refine ⟨?_, ?_⟩ <;> simp (disch := omega) only [ewZ, reduceCtorEq, seval, hSS, c, e1, e2, e3, e4, e6, w0, hb]
    ·exact ⟨hm, y.1⟩
    ·exact y.2
  ·have hb := hbit q3 hq3 rfl
   by_cases hB : bitS [q0, q1, q2, q3] i.toNat = true
   ·have hb := hb.2 hB
    have y := nx (cd (dc O ++ [[i]])) (by rw [hY, if_pos hB])
    refine ⟨?_, ?_⟩ <;> simp (disch := omega) only [ewZ, reduceCtorEq, seval, hSS, c, e1, e2, e3, e4, e6, w0, hb]
    ·exact ⟨⟨hm, hL⟩, y.1⟩
    ·exact y.2
   ·have hb := (not_congr hb).2 hB
    have y := nx O (by rw [if_neg hB, List.append_nil])
    refine ⟨?_, ?_⟩ <;> simp (disch := omega) only [ewZ, reduceCtorEq, seval, hSS, c, e1, e2, e3, e4, e6, w0, hb]
    ·exact ⟨hm, y.1⟩
    ·exact y.2
 ·refine ⟨?_, ?_⟩ <;> simp (disch := omega) only [ewZ, reduceCtorEq, seval, hSS, c]
  ·show dc O = dc O ++ Aq (((List.range n.toNat).drop i.toNat).filter (bitS [q0, q1, q2, q3]))
   rw [List.drop_eq_nil_of_le (by simp; omega)]
   exact (List.append_nil _).symm
theorem c13ok : c13.OK Tryd.prog G0 := ⟨rfl, mF ⟨ok37.1, trivial⟩, mF ⟨okA3.1, trivial⟩⟩
theorem ok13 : EPz e13 PU := by
 refine c13ok.nm.entryK false [(100000037, e37.nm), (100009013, leA3.nm.ent)] ?_
 go_invoke
 refine enK rfl ?_
 intro l ρ n hn l0 l1 l2 l3 l4 l5 l6 s hs a0 ha0 a1 ha1 a2 ha2 a3 ha3 a4 ha4 kd hkd a6 ha6 ty hty co hco sq hsq ac hac wi hwi le hle w0 hw0 w1 hw1 w2 hw2 w3 hw3 w4 hw4 wk hwk hp v1 hn1 v2 hn2 v3 hn3 v4 hn4 v5 hn5 v6 hSS hd
 simp (disch := omega) only [and_true, Ent.nm_fn, hSS, ewZ, reduceCtorEq, seval] at hd
 obtain ⟨hd1, hd2, hd3, hd4, hd5, hd6⟩ := hd
 have z := (PostOK.usf (vs := [v1, v2, v3, v4, v5]) ok37.2 ⟨hd1, hd2, hd3, hd4, hd5, trivial⟩) (by exact ⟨hn, rfl, rfl, rfl, rfl, rfl, rfl, rfl, hs, ha0, ha1, ha2, ha3, ha4, hkd, ha6, hty, hco, hsq, hac, hwi, hle, hw0, hw1, hw2, hw3, hw4, hwk, trivial⟩) hp
 replace z : (¬ tabR [n, l0, l1, l2, l3, l4, l5, l6] /\ [v1, v2, v3, v4, v5] = [0, 0, 0, 0, 280]) \/ (tabR [n, l0, l1, l2, l3, l4, l5, l6] /\ ¬ pktP s [a0, a1, a2, a3, a4, kd, a6, ty, co, sq, ac, wi, le, w0, w1, w2, w3, w4, wk] /\ [v1, v2, v3, v4, v5] = [0, 0, 0, 0, 261]) \/
  (tabR [n, l0, l1, l2, l3, l4, l5, l6] /\ pktP s [a0, a1, a2, a3, a4, kd, a6, ty, co, sq, ac, wi, le, w0, w1, w2, w3, w4, wk] /\ v5 = 0 /\ setOK [v1, v2, v3, v4] /\ ∀ i, i < 256 -> bitS [v1, v2, v3, v4] i = Dw [dc l0, dc l1, dc l2, dc l3, dc l4, dc l5, dc l6] s [a0, a1, a2, a3, a4, kd, a6, ty, co, sq, ac, wi, le, w0, w1, w2, w3, w4, wk] i) := z
 have hp' : e37.pre [n, l0, l1, l2, l3, l4, l5, l6, s, a0, a1, a2, a3, a4, kd, a6, ty, co, sq, ac, wi, le, w0, w1, w2, w3, w4, wk] := hp
 rcases z with ⟨z1, z2⟩ | ⟨z1, z2, z3⟩ | ⟨z1, z2, z3, z4, z5⟩
 ·simp only [List.cons.injEq, and_true] at z2
  obtain ⟨-, -, -, -, rfl⟩ := z2
  refine ⟨?_, ?_⟩ <;> simp (disch := omega) only [ewZ, reduceCtorEq, seval, hSS]
  ·exact hp'
  ·exact Or.inl ⟨z1, Ab _, rfl⟩
 ·simp only [List.cons.injEq, and_true] at z3
  obtain ⟨-, -, -, -, rfl⟩ := z3
  refine ⟨?_, ?_⟩ <;> simp (disch := omega) only [ewZ, reduceCtorEq, seval, hSS]
  ·exact hp'
  ·exact Or.inr (Or.inl ⟨z1, z2, Ab _, rfl⟩)
 ·have hN0 : 0 <= n := z1.1
  have hN1 : n <= 256 := z1.2.1
  have yp : leA3.ent.pre [v1, v2, v3, v4, cd [], n, 0] := ⟨z4, hN0, hN1, Int.le_refl _, hN0, by show ((dc (cd [])).length : Int) <= 0; rw [Ab]; decide⟩
  have y := (PostOK.usf (vs := [v6]) okA3.2 ⟨hd6, trivial⟩) ⟨hn1, hn2, hn3, hn4, rfl, hn, rfl, trivial⟩ yp
  replace y : dc v6 = dc (cd []) ++ Aq (((List.range n.toNat).drop 0).filter (bitS [v1, v2, v3, v4])) := y
  rw [Ab, List.nil_append, List.drop_zero] at y
  refine ⟨?_, ?_⟩ <;> simp (disch := omega) only [ewZ, reduceCtorEq, seval, hSS, z3]
  ·exact ⟨hp', yp⟩
  ·refine Or.inr (Or.inr ⟨z1, z2, ?_, rfl⟩)
   show dc v6 = Aq (allF n.toNat [dc l0, dc l1, dc l2, dc l3, dc l4, dc l5, dc l6] s [a0, a1, a2, a3, a4, kd, a6, ty, co, sq, ac, wi, le, w0, w1, w2, w3, w4, wk])
   rw [y]
   unfold allF
   congr 1
   refine List.filter_congr fun i hi => z5 i ?_
   have := List.mem_range.1 hi
   omega
theorem c15ok : c15.OK Tryd.prog G0 := ⟨rfl, mF ⟨ok13.1, trivial⟩, mF trivial⟩
theorem ok15 : EPz e15 KK := by
 refine c15ok.nm.entryK false [(100000013, e13.nm)] ?_
 go_invoke
 refine enK rfl ?_
 intro l ρ n hn l0 l1 l2 l3 l4 l5 l6 s hs a0 ha0 a1 ha1 a2 ha2 a3 ha3 a4 ha4 kd hkd a6 ha6 ty hty co hco sq hsq ac hac wi hwi le hle w0 hw0 w1 hw1 w2 hw2 w3 hw3 w4 hw4 wk hwk hp v1 v2 hn2 hSS hd
 simp (disch := omega) only [and_true, Ent.nm_fn, hSS, ewZ, reduceCtorEq, seval] at hd
 obtain ⟨hd1, hd2⟩ := hd
 have z := (PostOK.usf (vs := [v1, v2]) ok13.2 ⟨hd1, hd2, trivial⟩) (by exact ⟨hn, rfl, rfl, rfl, rfl, rfl, rfl, rfl, hs, ha0, ha1, ha2, ha3, ha4, hkd, ha6, hty, hco, hsq, hac, hwi, hle, hw0, hw1, hw2, hw3, hw4, hwk, trivial⟩) hp
 replace z : (¬ tabR [n, l0, l1, l2, l3, l4, l5, l6] /\ dc v1 = [] /\ v2 = 280) \/ (tabR [n, l0, l1, l2, l3, l4, l5, l6] /\ ¬ pktP s [a0, a1, a2, a3, a4, kd, a6, ty, co, sq, ac, wi, le, w0, w1, w2, w3, w4, wk] /\ dc v1 = [] /\ v2 = 261) \/ (tabR [n, l0, l1, l2, l3, l4, l5, l6] /\ pktP s [a0, a1, a2, a3, a4, kd, a6, ty, co, sq, ac, wi, le, w0, w1, w2, w3, w4, wk] /\ dc v1 = Aq (allF n.toNat [dc l0, dc l1, dc l2, dc l3, dc l4, dc l5, dc l6] s [a0, a1, a2, a3, a4, kd, a6, ty, co, sq, ac, wi, le, w0, w1, w2, w3, w4, wk]) /\ v2 = 0) := z
 have hp' : e13.pre [n, l0, l1, l2, l3, l4, l5, l6, s, a0, a1, a2, a3, a4, kd, a6, ty, co, sq, ac, wi, le, w0, w1, w2, w3, w4, wk] := hp
 rcases z with ⟨z1, z2, rfl⟩ | ⟨z1, z2, z3, rfl⟩ | ⟨z1, z2, z3, rfl⟩
 ·refine ⟨?_, ?_⟩ <;> simp (disch := omega) only [ewZ, reduceCtorEq, seval, hSS]
  ·exact hp'
  ·exact Or.inl ⟨z1, rfl⟩
 ·refine ⟨?_, ?_⟩ <;> simp (disch := omega) only [ewZ, reduceCtorEq, seval, hSS]
  ·exact hp'
  ·exact Or.inr (Or.inl ⟨z1, z2, rfl⟩)
 ·obtain ⟨A, hA⟩ : ∃ A, allF n.toNat [dc l0, dc l1, dc l2, dc l3, dc l4, dc l5, dc l6] s [a0, a1, a2, a3, a4, kd, a6, ty, co, sq, ac, wi, le, w0, w1, w2, w3, w4, wk] = A := ⟨_, rfl⟩
  have hp15 : ∀ ys, ys = [firI A, 0] -> KK [n, l0, l1, l2, l3, l4, l5, l6, s, a0, a1, a2, a3, a4, kd, a6, ty, co, sq, ac, wi, le, w0, w1, w2, w3, w4, wk] ys := fun ys h => Or.inr (Or.inr ⟨z1, z2, by rw [h, <- hA]; rfl⟩)
  rw [hA] at z3
  have hlA : A.length <= 256 := by
   rw [<- hA]
   have h1 : (allF n.toNat [dc l0, dc l1, dc l2, dc l3, dc l4, dc l5, dc l6] s [a0, a1, a2, a3, a4, kd, a6, ty, co, sq, ac, wi, le, w0, w1, w2, w3, w4, wk]).length <= (List.range n.toNat).length := List.length_filter_le _ _
   rw [List.length_range] at h1
   have : n <= 256 := z1.2.1
   omega
  cases A with
  | nil =>
    have z3 : dc v1 = [] := z3
    have z4 : ((dc v1).length : Int) = 0 := by rw [z3]; rfl
    refine ⟨?_, ?_⟩ <;> simp (disch := omega) only [ewZ, reduceCtorEq, seval, hSS, z4]
    ·exact hp'
    ·exact hp15 _ rfl
  | cons a A =>
    have z3 : dc v1 = [(a : Int)] :: Aq A := z3
    have z4 : ((dc v1).length : Int) = A.length + 1 := by rw [z3]; simp [Aq]
    rw [List.length_cons] at hlA
    have w : IntKind.i64.wrap ((A.length : Int) + 1) = A.length + 1 := i64w (by omega) (by omega)
    have ha : a < 256 := by
     have h1 : a ∈ allF n.toNat [dc l0, dc l1, dc l2, dc l3, dc l4, dc l5, dc l6] s [a0, a1, a2, a3, a4, kd, a6, ty, co, sq, ac, wi, le, w0, w1, w2, w3, w4, wk] := by rw [hA]; exact List.mem_cons_self ..
     have h2 := List.mem_range.1 (List.mem_filter.1 h1).1
     have : n <= 256 := z1.2.1
     omega
    have wa : IntKind.i64.wrap (a : Int) = a := i64w (by omega) (by omega)
    have er : (dc v1).getD 0 [] = [(a : Int)] := by rw [z3]; rfl
    refine ⟨?_, ?_⟩
    ·simp (disch := omega) only [ewZ, reduceCtorEq, seval, hSS, z4, w]
     exact ⟨hp', fun _ => by omega⟩
    ·simp (disch := omega) only [ewZ, reduceCtorEq, seval, hSS, z4, w, er, wa]
     rw [if_neg (by omega), if_neg (by omega)]
     exact hp15 _ rfl
end
end Go.Proofs.YtgpflpbldeflhaaDoor.Ew.Sr
set_option maxHeartbeats 8000000
namespace Go.Proofs.YtgpflpbldeflhaaDoor.Ew.Sr
open Go Go.RowKit
noncomputable section
def v7 : Sh := .agg (List.replicate 7 u32)
def f4 : Sh := .agg [u32, u32, u32, u32]
def f7 : Sh := .agg (List.replicate 28 u32)
def b51 : Ent := ⟨51, 51, [u8, fa], [], [], v7, z0, T0⟩
def pre52 (xs : List Int) : Prop := pfR (env xs 4) (env xs 5) /\ pfR (env xs 6) (env xs 7)
def b52 : Ent := ⟨52, 52, [ru], [], [], f7, z0, pre52⟩
def bo : Sh := .sc .b
def b53 : Ent := ⟨53, 53, [u32, f4], [], [], bo, z0, T0⟩
def b50 : Ent := ⟨50, 50, [v7, f7, .fnc 53 []], [], [], bo, z0, T0⟩
def b33 : Ent := ⟨33, 33, [ru, u8, fa], [], [], .tup [bo, i64], z0, T0⟩
end
end Go.Proofs.YtgpflpbldeflhaaDoor.Ew.Sr
