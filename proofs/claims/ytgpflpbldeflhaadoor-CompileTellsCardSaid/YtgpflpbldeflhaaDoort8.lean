/- Texts that the claim needs, set narrow. -/
import Derived.Test.YtgpflpbldeflhaaDoort7
set_option linter.unusedVariables false
set_option linter.unusedSimpArgs false
set_option maxHeartbeats 8000000
namespace Go.Proofs.YtgpflpbldeflhaaDoor.Ew.Sr
open Go Go.RowKit
noncomputable section
def allR (L : RL) : Prop := ∀ r ∈ L, rightP r
def c62 : Ctx := ⟨[e41], []⟩
def preJ (xs : List Int) : Prop := rowsOK ruK (dc (env xs 0)) /\ env xs 1 = ((dc (env xs 0)).length : Int) /\ 0 <= env xs 2 /\ env xs 2 <= env xs 1 /\ env xs 1 <= 1000000
def Sz (xs ys : List Int) : Prop := (env ys 0 = 1 /\ allR ((dc (env xs 0)).drop (env xs 2).toNat)) \/ (env ys 0 = 0 /\ ¬ allR ((dc (env xs 0)).drop (env xs 2).toNat) /\ 0 <= env ys 1)
def muJ (xs : List Int) : Nat := (env xs 1 - env xs 2).toNat
def lbJ : LEnt := ⟨⟨9062, 999999, [lru, .fnc 40 [], .lt kJ 0, i64, i64], [], [0], .tup [.sc .b, i64], z0, preJ⟩, [0, 1, 4, 7, 8], [4], [5] ++ (List.range 11).map (· + 8), [.ex 0, .ret], 19, []⟩
def leJ : LEnt := lbJ.fw (fnM Tryd.prog G0 62 pIf lbJ Sz)
def c39 : Ctx := ⟨[], [(62, pIf, leJ)]⟩
def pre39 (xs : List Int) : Prop := rowsOK ruK (dc (env xs 0)) /\ ((dc (env xs 0)).length : Int) <= 1000000
def QA (xs ys : List Int) : Prop := (env ys 0 = 1 /\ ¬ allR (dc (env xs 0))) \/ (env ys 0 = 0 /\ allR (dc (env xs 0)))
def b39 : Ent := ⟨39, 39, [lru, .fnc 40 []], [], [0], .sc .b, z0, pre39⟩
def e39 : Ent := b39.fw (fnG Tryd.prog G0 b39 QA)
def tab : Sh := .agg [i64, lcl, lcl, lcl, lcl, lcl, lcl, lcl]
def tabo : Sh := .agg [i64, lclo, lclo, lclo, lclo, lclo, lclo, lclo]
def c21 : Ctx := ⟨[e39, e420, e421, e422, e423, e424, e425, e426], []⟩
def preGood (xs : List Int) : Prop := rowsOK ruK (dc (env xs 0)) /\ allR (dc (env xs 0)) /\ ((dc (env xs 0)).length : Int) <= 256
def tabP (L : RL) (ys : List Int) : Prop := env ys 0 = (L.length : Int) /\ clsP 0 L (dc (env ys 1)) /\ clsP 1 L (dc (env ys 2)) /\ clsP 2 L (dc (env ys 3)) /\ clsP 3 L (dc (env ys 4)) /\ clsP 4 L (dc (env ys 5)) /\ clsP 5 L (dc (env ys 6)) /\ clsP 6 L (dc (env ys 7))
def QB (xs ys : List Int) : Prop := tabP (dc (env xs 0)) ys
def b21 : Ent := ⟨21, 21, [lru], [], [0], .tup [tabo, .lt kJ 0], z0, preGood⟩
def e21 : Ent := b21.fw (fnG Tryd.prog G0 b21 QB)
theorem c62ok : c62.OK Tryd.prog G0 := Ctx.OK.addF (c := ⟨[], []⟩) Ctx.OK.nil ok41.1 rfl
theorem okJ : Ae Tryd.prog G0 62 pIf leJ /\ PostOK leJ.ent Sz := by
 refine c62ok.loopJ mixed muJ false ⟨_, _, _, Tryd.func62, rfl, rfl⟩ 9062 rfl rfl ?_
 go_invoke
 refine ⟨_, _, _, _, rfl, by kernel_rfl, ?_⟩
 intro L n hn i hi hp φ hφ l hS hF ρ hρe hd
 have F41 := hF 41 e41 rfl rfl
 simp only [eqL, Nat.reduceAdd] at hρe
 have hSS := Jj (Jj F41 hS) (Jj hρe (Jj hn hi))
 obtain ⟨p1, p2, p3, p4, p5⟩ := hp
 replace p1 : rowsOK ruK (dc L) := p1
 simp only [ewY, seval] at p2 p3 p4 p5
 by_cases c : i < n
 ·obtain ⟨r, er, hr, hm, hdr⟩ := Az p1 p3 (by omega : i < ((dc L).length : Int))
  obtain ⟨s0, r', rfl, h0, hr⟩ := Aa hr
  obtain ⟨s1, r', rfl, h1, hr⟩ := Aa hr
  obtain ⟨s2, r', rfl, h2, hr⟩ := Aa hr
  obtain ⟨s3, r', rfl, h3, hr⟩ := Aa hr
  obtain ⟨s4, r', rfl, h4, hr⟩ := Aa hr
  obtain ⟨s5, r', rfl, h5, hr⟩ := Aa hr
  obtain ⟨s6, r', rfl, h6, hr⟩ := Aa hr
  obtain ⟨s7, r', rfl, h7, hr⟩ := Aa hr
  obtain ⟨s8, r', rfl, h8, hr⟩ := Aa hr
  obtain ⟨s9, r', rfl, h9, hr⟩ := Aa hr
  obtain ⟨sa, r', rfl, h10, hr⟩ := Aa hr
  obtain ⟨sb, r', rfl, h11, hr⟩ := Aa hr
  obtain ⟨sc, r', rfl, h12, hr⟩ := Aa hr
  obtain rfl := Ba hr
  simp only [Ad] at h0 h1 h2 h3 h4 h5 h6 h7 h8 h9 h10 h11
  have z := ok41.2 [s0, s1, s2, s3, s4, s5, s6, s7, s8, s9, sa, sb, sc] ⟨h0, h1, h2, h3, h4, h5, h6, h7, h8, h9, h10, h11, h12, trivial⟩ trivial
  obtain ⟨u, hu⟩ : ∃ u, K.b.norm (e41.fn 0 [s0, s1, s2, s3, s4, s5, s6, s7, s8, s9, sa, sb, sc]) = u := ⟨_, rfl⟩
  have z : (u = 1 /\ rightP [s0, s1, s2, s3, s4, s5, s6, s7, s8, s9, sa, sb, sc]) \/ (u = 0 /\ ¬ rightP [s0, s1, s2, s3, s4, s5, s6, s7, s8, s9, sa, sb, sc]) := by rw [<- hu]; exact z
  have y0 : e41.pre [s0, s1, s2, s3, s4, s5, s6, s7, s8, s9, sa, sb, sc] := trivial
  rcases z with ⟨rfl, z⟩ | ⟨rfl, z⟩
  ·have yp : lbJ.ent.pre [L, n, i + 1] := ⟨p1, p2, by show 0 <= i + 1; omega, by show i + 1 <= n; omega, p5⟩
   have ym : muJ [L, n, i + 1] < muJ [L, n, i] := by show (n - (i + 1)).toNat < (n - i).toNat; omega
   have ih := hφ [L, n, i + 1] ⟨rfl, hn, i64w (by omega) (by omega), trivial⟩ yp ym
   obtain ⟨w0, hw0⟩ : ∃ w, K.b.norm (φ 0 [L, n, i + 1]) = w := ⟨_, rfl⟩
   obtain ⟨w1, hw1⟩ : ∃ w, IntKind.i64.wrap (φ 1 [L, n, i + 1]) = w := ⟨_, rfl⟩
   have ih : (w0 = 1 /\ allR ((dc L).drop (i + 1).toNat)) \/ (w0 = 0 /\ ¬ allR ((dc L).drop (i + 1).toNat) /\ 0 <= w1) := by rw [<- hw0, <- hw1]; exact ih
   refine ⟨?_, ?_⟩
   ·simp (disch := omega) only [ewZ, reduceCtorEq, seval, hSS, c, er, h0, h1, h2, h3, h4, h5, h6, h7, h8, h9, h10, h11, h12, hu]
    exact ⟨⟨⟨p3, by omega⟩, ⟨p3, by omega⟩, y0⟩, yp, ym⟩
   ·simp (disch := omega) only [ewZ, reduceCtorEq, seval, hSS, c, er, h0, h1, h2, h3, h4, h5, h6, h7, h8, h9, h10, h11, h12, hu, hw0, hw1]
    simp only [ite_self]
    rcases ih with ⟨rfl, q⟩ | ⟨rfl, q, q'⟩
    ·refine Or.inl ⟨rfl, ?_⟩
     show allR ((dc L).drop i.toNat)
     rw [hdr]
     intro r hr
     rcases List.mem_cons.1 hr with rfl | hr
     ·exact z
     ·exact q r hr
    ·refine Or.inr ⟨rfl, fun h => q fun r hr => ?_, q'⟩
     have h : allR ((dc L).drop i.toNat) := h
     rw [hdr] at h
     exact h r (List.mem_cons_of_mem _ hr)
  ·refine ⟨?_, ?_⟩ <;> simp (disch := omega) only [ewZ, reduceCtorEq, seval, hSS, c, er, h0, h1, h2, h3, h4, h5, h6, h7, h8, h9, h10, h11, h12, hu]
   ·exact ⟨⟨p3, by omega⟩, ⟨p3, by omega⟩, y0⟩
   ·refine Or.inr ⟨rfl, fun h => z ?_, p3⟩
    have h : allR ((dc L).drop i.toNat) := h
    rw [hdr] at h
    exact h _ (List.mem_cons_self ..)
 ·refine ⟨?_, ?_⟩ <;> simp (disch := omega) only [ewZ, reduceCtorEq, seval, hSS, c]
  ·refine Or.inl ⟨rfl, ?_⟩
   show allR ((dc L).drop i.toNat)
   rw [List.drop_eq_nil_of_le (by omega)]
   exact fun r hr => by cases hr
theorem c39ok : c39.OK Tryd.prog G0 := Ctx.OK.addL (c := ⟨[], []⟩) Ctx.OK.nil okJ.1 rfl
theorem ok39 : EntryOK Tryd.prog G0 e39 /\ PostOK e39 QA := by
 refine c39ok.nm.entryJ mixed false ?_
 go_invoke
 refine ⟨_, _, _, _, rfl, by kernel_rfl, ?_⟩
 intro L hp l hF ρ hρe hd
 have F9062 := hF 100009062 leJ.nm.ent rfl rfl
 simp only [eqL, Nat.reduceAdd] at hρe
 obtain ⟨⟨v1, hv1, hd1, hn1⟩, ⟨v2, hv2, hd2, hn2⟩⟩ := Jj (nmd hd 0 rfl) (nmd hd 1 rfl)
 simp only [Ad] at hn2
 have hSS := Jj (Jj F9062 (Jj hρe hv1)) (Jj hn1 (Jj hv2 hn2))
 simp (disch := omega) only [Ad, Ent.nm_fn, hSS, ewZ, reduceCtorEq, seval] at hd1 hd2
 obtain ⟨p1, p2⟩ := hp
 replace p1 : rowsOK ruK (dc L) := p1
 replace p2 : ((dc L).length : Int) <= 1000000 := p2
 have wL : IntKind.i64.wrap (((dc L).length : Nat) : Int) = (((dc L).length : Nat) : Int) := i64w (by omega) (by omega)
 simp only [wL] at hd1 hd2
 have yp : leJ.ent.pre [L, (((dc L).length : Nat) : Int), 0] := ⟨p1, rfl, by show (0 : Int) <= 0; decide, by show (0 : Int) <= (((dc L).length : Nat) : Int); omega, p2⟩
 have q := (PostOK.use (os := [.b, kJ]) (vs := [v1, v2]) okJ.2 rfl rfl ⟨hd1, hd2, trivial⟩) ⟨rfl, wL, rfl, trivial⟩ yp
 replace q : (v1 = 1 /\ allR ((dc L).drop 0)) \/ (v1 = 0 /\ ¬ allR ((dc L).drop 0) /\ 0 <= v2) := q
 rw [List.drop_zero] at q
 rcases q with ⟨rfl, q2⟩ | ⟨rfl, q2, q3⟩
 ·refine ⟨?_, ?_⟩
  ·simp (disch := omega) only [ewZ, reduceCtorEq, seval, hSS, wL, yp]
  ·simp (disch := omega) only [ewZ, reduceCtorEq, seval, hSS, wL]
   exact Or.inr ⟨rfl, q2⟩
 ·refine ⟨?_, ?_⟩
  ·simp (disch := omega) only [ewZ, reduceCtorEq, seval, hSS, wL, yp]
  ·simp (disch := omega) only [ewZ, reduceCtorEq, seval, hSS, wL]
   exact Or.inl ⟨by show b2i (decide (0 <= v2)) = 1; rw [decide_eq_true q3]; rfl, q2⟩
theorem SA : c21.OK Tryd.prog G0 := Ctx.OK.addF (c := ⟨[e420, e421, e422, e423, e424, e425, e426], []⟩) (Ctx.OK.addF (c := ⟨[e421, e422, e423, e424, e425, e426], []⟩) (Ctx.OK.addF (c := ⟨[e422, e423, e424, e425, e426], []⟩) (Ctx.OK.addF (c := ⟨[e423, e424, e425, e426], []⟩) (Ctx.OK.addF (c := ⟨[e424, e425, e426], []⟩) (Ctx.OK.addF (c := ⟨[e425, e426], []⟩) (Ctx.OK.addF (c := ⟨[e426], []⟩) (Ctx.OK.addF (c := ⟨[], []⟩) Ctx.OK.nil Od.1 rfl) Oc.1 rfl) Oa.1 rfl) N9.1 rfl) N8.1 rfl) N7.1 rfl) N6.1 rfl) ok39.1 rfl
theorem ok21 : EntryOK Tryd.prog G0 e21 /\ PostOK e21 QB := by
 refine SA.entryJ mixed false ?_
 go_invoke
 refine ⟨_, _, _, _, rfl, by kernel_rfl, ?_⟩
 intro L hp l hF ρ hρe hd
 have F39 := hF 39 e39 rfl rfl
 have F4200 := hF 4200 e420 rfl rfl
 have F4201 := hF 4201 e421 rfl rfl
 have F4202 := hF 4202 e422 rfl rfl
 have F4203 := hF 4203 e423 rfl rfl
 have F4204 := hF 4204 e424 rfl rfl
 have F4205 := hF 4205 e425 rfl rfl
 have F4206 := hF 4206 e426 rfl rfl
 simp only [eqL, Nat.reduceAdd] at hρe
 have hSS := Jj (Jj (Jj F39 F4200) (Jj F4201 F4202)) (Jj (Jj F4203 F4204) (Jj F4205 (Jj F4206 hρe)))
 obtain ⟨p1, p2, p3⟩ := hp
 replace p1 : rowsOK ruK (dc L) := p1
 replace p2 : allR (dc L) := p2
 replace p3 : ((dc L).length : Int) <= 256 := p3
 have wL : IntKind.i64.wrap (((dc L).length : Nat) : Int) = (((dc L).length : Nat) : Int) := i64w (by omega) (by omega)
 have y0 : e39.pre [L] := ⟨p1, by show ((dc L).length : Int) <= 1000000; omega⟩
 have z := ok39.2 [L] ⟨rfl, trivial⟩ y0
 obtain ⟨u, hu⟩ : ∃ u, K.b.norm (e39.fn 0 [L]) = u := ⟨_, rfl⟩
 have z : (u = 1 /\ ¬ allR (dc L)) \/ (u = 0 /\ allR (dc L)) := by rw [<- hu]; exact z
 obtain ⟨rfl, _⟩ : u = 0 /\ allR (dc L) := z.resolve_left fun h => h.2 p2
 have y1 : pre42 [L] := ⟨fun r hr => ⟨p1 r hr, (p2 r hr).2.2.1.1, (p2 r hr).2.2.1.2⟩, p3⟩
 have q0 : clsP 0 (dc L) (dc (e420.fn 0 [L])) := N6.2 [L] ⟨rfl, trivial⟩ y1
 have q1 : clsP 1 (dc L) (dc (e421.fn 0 [L])) := N7.2 [L] ⟨rfl, trivial⟩ y1
 have q2 : clsP 2 (dc L) (dc (e422.fn 0 [L])) := N8.2 [L] ⟨rfl, trivial⟩ y1
 have q3 : clsP 3 (dc L) (dc (e423.fn 0 [L])) := N9.2 [L] ⟨rfl, trivial⟩ y1
 have q4 : clsP 4 (dc L) (dc (e424.fn 0 [L])) := Oa.2 [L] ⟨rfl, trivial⟩ y1
 have q5 : clsP 5 (dc L) (dc (e425.fn 0 [L])) := Oc.2 [L] ⟨rfl, trivial⟩ y1
 have q6 : clsP 6 (dc L) (dc (e426.fn 0 [L])) := Od.2 [L] ⟨rfl, trivial⟩ y1
 have cm : ¬ (((dc L).length : Int) > 256) := by omega
 refine ⟨?_, ?_⟩ <;> simp (disch := omega) only [ewZ, reduceCtorEq, seval, hSS, wL, hu, cm]
 ·exact ⟨y0, y1, y1, y1, y1, y1, y1, y1⟩
 ·exact ⟨rfl, q0, q1, q2, q3, q4, q5, q6⟩
end
end Go.Proofs.YtgpflpbldeflhaaDoor.Ew.Sr
set_option maxHeartbeats 8000000
namespace Go.Proofs.YtgpflpbldeflhaaDoor.Ew.Sr
open Go Go.RowKit
noncomputable section
def se4 : Sh := .agg [u64, u64, u64, u64]
def QC (xs ys : List Int) : Prop := ys = [bitsI .andNot .u64 (env xs 0) (env xs 4), bitsI .andNot .u64 (env xs 1) (env xs 5), bitsI .andNot .u64 (env xs 2) (env xs 6), bitsI .andNot .u64 (env xs 3) (env xs 7)]
def b38 : Ent := ⟨38, 38, [se4, se4], [], [], se4, z0, T0⟩
def e38 : Ent := b38.fw (fnG Tryd.prog G0 b38 QC)
def lenS (l : List Int) : Prop := ∀ c ∈ l, ((dc c).length : Int) <= 1000000
def pre28 (xs : List Int) : Prop := lenS [env xs 1, env xs 2, env xs 3, env xs 4, env xs 5, env xs 6, env xs 7]
def QD (xs ys : List Int) : Prop := env ys 0 = (dc (env xs 1)).length + (dc (env xs 2)).length + (dc (env xs 3)).length + (dc (env xs 4)).length + (dc (env xs 5)).length + (dc (env xs 6)).length + (dc (env xs 7)).length
def b28 : Ent := ⟨28, 28, [tab], [], [0, 1, 2, 3, 4, 5, 6], i64, z0, pre28⟩
def e28 : Ent := b28.fw (fnG Tryd.prog G0 b28 QD)
def beyF (i : Nat) (s : List Int) : List Int := ((List.range 256).drop i).foldl (fun s j => orB j s) s
def preR (xs : List Int) : Prop := 0 <= env xs 4 /\ env xs 4 <= 256
def Oe (xs ys : List Int) : Prop := ys = beyF (env xs 4).toNat [env xs 0, env xs 1, env xs 2, env xs 3]
def muR (xs : List Int) : Nat := (256 - env xs 4).toNat
def pR : List Bool := [true,true,true,false,true,false]
def lbR : LEnt := ⟨⟨9016, 999999, [seS, i64], [seO 0], [], .tup [], z0, preR⟩, [3, 4], [], [4] ++ (List.range 13).map (· + 19), [.ex 0], 103, []⟩
def leR : LEnt := lbR.fw (fnM Tryd.prog G0 16 pR lbR Oe)
def rowG (L : RL) (b : List Int) (j : Nat) : Prop := (0 < j -> (L.getD (j - 1) []).getD 0 0 < (L.getD j []).getD 0 0 /\ (L.getD (j - 1) []).drop 1 ≠ (L.getD j []).drop 1) /\ (L.getD j []).drop 1 = List.zipWith (bitsI .andNot .u64) ((L.getD j []).drop 1) b
def preW (xs : List Int) : Prop := env xs 5 = env xs 6 /\ rowsOK clK (dc (env xs 5)) /\ env xs 7 = ((dc (env xs 5)).length : Int) /\ 0 <= env xs 8 /\ env xs 8 <= env xs 7 /\ env xs 7 <= 1000000
def Og (xs ys : List Int) : Prop := (env ys 0 = 1 /\ ∀ j : Nat, (env xs 8).toNat <= j -> j < (dc (env xs 5)).length -> rowG (dc (env xs 5)) [env xs 1, env xs 2, env xs 3, env xs 4] j) \/ (env ys 0 = 0 /\ env ys 1 = 0 /\ ∃ j : Nat, j < (dc (env xs 5)).length /\ ¬ rowG (dc (env xs 5)) [env xs 1, env xs 2, env xs 3, env xs 4] j)
def muW (xs : List Int) : Nat := (env xs 7 - env xs 8).toNat
def pW : List Bool := [true,true,true,true,false,true,false,false,true,true,false,false,true,true,true,false]
def lbW : LEnt := ⟨⟨9216, 999999, [.sc .b, seS, lcl, lcl, i64, i64], [], [0, 1, 2], .tup [.sc .b, .sc .b], z0, preW⟩, [2, 3, 6, 61, 62, 63], [2], [7, 8] ++ (List.range 39).map (· + 63), [.ex 4, .ret], 103, [6, 61]⟩
def cW : Ctx := ⟨[e38], []⟩
def leW : LEnt := lbW.fw (fnM Tryd.prog G0 16 pW lbW Og)
theorem ok38 : EntryOK Tryd.prog G0 e38 /\ PostOK e38 QC := by
 refine Ctx.OK.nil.entryJ mixed false ?_
 go_invoke
 refine ⟨_, _, _, _, rfl, by kernel_rfl, ?_⟩
 intro a0 ha0 a1 ha1 a2 ha2 a3 ha3 b0 hb0 b1 hb1 b2 hb2 b3 hb3 hp l hF ρ hρe hd
 simp only [eqL, Nat.reduceAdd] at hρe
 have hSS := Jj (Jj (Jj hρe ha0) (Jj ha1 ha2)) (Jj (Jj ha3 hb0) (Jj hb1 (Jj hb2 hb3)))
 refine ⟨?_, ?_⟩ <;> simp (disch := omega) only [ewZ, reduceCtorEq, seval, hSS]
 ·rfl
theorem ok28 : EntryOK Tryd.prog G0 e28 /\ PostOK e28 QD := by
 refine Ctx.OK.nil.entryJ mixed false ?_
 go_invoke
 refine ⟨_, _, _, _, rfl, by kernel_rfl, ?_⟩
 intro n hn g0 g1 g2 g3 g4 g5 g6 hp l hF ρ hρe hd
 simp only [eqL, Nat.reduceAdd] at hρe
 have hSS := Jj hρe hn
 have b0 : ((dc g0).length : Int) <= 1000000 := hp g0 (by simp [env])
 have b1 : ((dc g1).length : Int) <= 1000000 := hp g1 (by simp [env])
 have b2 : ((dc g2).length : Int) <= 1000000 := hp g2 (by simp [env])
 have b3 : ((dc g3).length : Int) <= 1000000 := hp g3 (by simp [env])
 have b4 : ((dc g4).length : Int) <= 1000000 := hp g4 (by simp [env])
 have b5 : ((dc g5).length : Int) <= 1000000 := hp g5 (by simp [env])
 have b6 : ((dc g6).length : Int) <= 1000000 := hp g6 (by simp [env])
 refine ⟨?_, ?_⟩ <;> simp (disch := omega) only [ewZ, reduceCtorEq, seval, hSS]
 ·show 0 + ((dc g0).length : Int) + (dc g1).length + (dc g2).length + (dc g3).length + (dc g4).length + (dc g5).length + (dc g6).length = (dc g0).length + (dc g1).length + (dc g2).length + (dc g3).length + (dc g4).length + (dc g5).length + (dc g6).length
  omega
theorem okR : Ae Tryd.prog G0 16 pR leR /\ PostOK leR.ent Oe := by
 refine Ctx.OK.nil.loopJ mixed muR false ⟨_, _, _, Tryd.func16, rfl, rfl⟩ 9016 rfl rfl ?_
 go_invoke
 refine ⟨_, _, _, _, rfl, by kernel_rfl, ?_⟩
 intro q0 hq0 q1 hq1 q2 hq2 q3 hq3 i hi hp φ hφ l hS hF ρ hρe hd
 simp only [eqL, Nat.reduceAdd] at hρe
 have hSS := Jj (Jj hS (Jj hρe hq0)) (Jj (Jj hq1 hq2) (Jj hq3 hi))
 obtain ⟨p3, p5⟩ := hp
 simp only [ewY, seval] at p3 p5
 by_cases c : i < 256
 ·have hdr : beyF i.toNat [q0, q1, q2, q3] = beyF (i.toNat + 1) (orB i.toNat [q0, q1, q2, q3]) := by
   unfold beyF
   rw [List.drop_eq_getElem_cons (by simp; omega), List.getElem_range, List.foldl_cons]
  have nx : ∀ a0 a1 a2 a3 : Int, [a0, a1, a2, a3] = orB i.toNat [q0, q1, q2, q3] -> IntKind.u64.wrap a0 = a0 -> IntKind.u64.wrap a1 = a1 -> IntKind.u64.wrap a2 = a2 -> IntKind.u64.wrap a3 = a3 ->
   (lbR.ent.pre [a0, a1, a2, a3, i + 1] /\ muR [a0, a1, a2, a3, i + 1] < muR [q0, q1, q2, q3, i]) /\
   Oe [q0, q1, q2, q3, i] [IntKind.u64.wrap (φ 0 [a0, a1, a2, a3, i + 1]), IntKind.u64.wrap (φ 1 [a0, a1, a2, a3, i + 1]), IntKind.u64.wrap (φ 2 [a0, a1, a2, a3, i + 1]), IntKind.u64.wrap (φ 3 [a0, a1, a2, a3, i + 1])] := fun a0 a1 a2 a3 h w0 w1 w2 w3 => by
   have yp : lbR.ent.pre [a0, a1, a2, a3, i + 1] := ⟨by show 0 <= i + 1; omega, by show i + 1 <= 256; omega⟩
   have ym : muR [a0, a1, a2, a3, i + 1] < muR [q0, q1, q2, q3, i] := by show (256 - (i + 1)).toNat < (256 - i).toNat; omega
   have ih := hφ [a0, a1, a2, a3, i + 1] ⟨w0, w1, w2, w3, i64w (by omega) (by omega), trivial⟩ yp ym
   have ih : [IntKind.u64.wrap (φ 0 [a0, a1, a2, a3, i + 1]), IntKind.u64.wrap (φ 1 [a0, a1, a2, a3, i + 1]), IntKind.u64.wrap (φ 2 [a0, a1, a2, a3, i + 1]), IntKind.u64.wrap (φ 3 [a0, a1, a2, a3, i + 1])] = beyF (i + 1).toNat [a0, a1, a2, a3] := ih
   refine ⟨⟨yp, ym⟩, ?_⟩
   show [_, _, _, _] = beyF i.toNat [q0, q1, q2, q3]
   rw [ih, hdr, show (i + 1).toNat = i.toNat + 1 by omega, h]
  obtain ⟨D, hD⟩ : ∃ D, i / 64 = D := ⟨_, rfl⟩
  have e1 : i.tdiv 64 = D := by rw [Int.tdiv_eq_ediv_of_nonneg p3]; exact hD
  have e2 : IntKind.i64.wrap D = D := i64w (by omega) (by omega)
  have e3 : IntKind.u8.wrap D = D := u8w (by omega) (by omega)
  have e4 : D.tmod 4 = D := by rw [Int.tmod_eq_emod_of_nonneg (by omega)]; omega
  have e6 : i.tmod 64 = i % 64 := Int.tmod_eq_emod_of_nonneg p3
  obtain ⟨B, hB⟩ : ∃ B : Int, (2 : Int) ^ (i.toNat % 64) = B := ⟨_, rfl⟩
  have e5 : IntKind.u64.wrap (1 * 2 ^ min (i % 64).toNat IntKind.u64.bits) = B := by
   rw [show min (i % 64).toNat IntKind.u64.bits = i.toNat % 64 by show min (i % 64).toNat 64 = _; omega, Int.one_mul, <- hB]
   have h1 : (2 : Int) ^ (i.toNat % 64) = ((2 ^ (i.toNat % 64) : Nat) : Int) := by rw [Int.natCast_pow]; rfl
   have h2 : 2 ^ (i.toNat % 64) <= 2 ^ 63 := Nat.pow_le_pow_right (by omega) (by omega)
   rw [h1]
   obtain ⟨Q, hQ⟩ : ∃ Q, 2 ^ (i.toNat % 64) = Q := ⟨_, rfl⟩
   rw [hQ] at h2 ⊢
   rw [u64w (by omega) (by omega)]
  have hor : orB i.toNat [q0, q1, q2, q3] = [q0, q1, q2, q3].set D.toNat (bitsI .or .u64 ([q0, q1, q2, q3].getD D.toNat 0) B) := by
   unfold orB
   rw [hB, show i.toNat / 64 = D.toNat by omega]
  have ww : ∀ a b : Int, IntKind.u64.wrap (bitsI .or .u64 a b) = bitsI .or .u64 a b := fun a b => AD _ _
  have hm : 0 <= i % 64 := by omega
  rw [hor] at nx
  rcases (show D = 0 \/ D = 1 \/ D = 2 \/ D = 3 by omega) with rfl | rfl | rfl | rfl
  ·have z := nx (bitsI .or .u64 q0 B) q1 q2 q3 rfl (ww _ _) hq1 hq2 hq3
   refine ⟨?_, ?_⟩ <;> simp (disch := omega) only [ewZ, reduceCtorEq, seval, hSS, c, e1, e2, e3, e4, e5, e6, Int.reduceEq, if_true, if_false]
   ·exact ⟨hm, z.1⟩
   ·exact z.2
  ·have z := nx q0 (bitsI .or .u64 q1 B) q2 q3 rfl hq0 (ww _ _) hq2 hq3
   refine ⟨?_, ?_⟩ <;> simp (disch := omega) only [ewZ, reduceCtorEq, seval, hSS, c, e1, e2, e3, e4, e5, e6, Int.reduceEq, if_true, if_false]
   ·exact ⟨hm, z.1⟩
   ·exact z.2
  ·have z := nx q0 q1 (bitsI .or .u64 q2 B) q3 rfl hq0 hq1 (ww _ _) hq3
   refine ⟨?_, ?_⟩ <;> simp (disch := omega) only [ewZ, reduceCtorEq, seval, hSS, c, e1, e2, e3, e4, e5, e6, Int.reduceEq, if_true, if_false]
   ·exact ⟨hm, z.1⟩
   ·exact z.2
  ·have z := nx q0 q1 q2 (bitsI .or .u64 q3 B) rfl hq0 hq1 hq2 (ww _ _)
   refine ⟨?_, ?_⟩ <;> simp (disch := omega) only [ewZ, reduceCtorEq, seval, hSS, c, e1, e2, e3, e4, e5, e6, Int.reduceEq, if_true, if_false]
   ·exact ⟨hm, z.1⟩
   ·exact z.2
 ·refine ⟨?_, ?_⟩ <;> simp (disch := omega) only [ewZ, reduceCtorEq, seval, hSS, c]
  ·show [q0, q1, q2, q3] = beyF i.toNat [q0, q1, q2, q3]
   unfold beyF
   rw [List.drop_eq_nil_of_le (by simp; omega)]; rfl
theorem cWok : cW.OK Tryd.prog G0 := Ctx.OK.addF (c := ⟨[], []⟩) Ctx.OK.nil ok38.1 rfl
theorem bw1 {g0 g1 g2 g3 g4 f0 f1 f2 f3 f4 x1 x2 x3 x4 : Int} (h : ¬ ((g0 < f0 /\ (g1 = f1 -> g2 = f2 -> g3 = f3 -> ¬g4 = f4)) /\ f1 = x1 /\ f2 = x2 /\ f3 = x3 /\ f4 = x4)) :
 (!(decide True && (decide True && (decide (f0 <= g0) || g1 == f1 && (g2 == f2 && (g3 == f3 && g4 == f4))) || !(f1 == x1 && (f2 == x2 && (f3 == x3 && f4 == x4)))))) = false := by
 simp only [decide_true, Bool.true_and, Bool.not_eq_false', Bool.or_eq_true, Bool.and_eq_true, decide_eq_true_eq, beq_iff_eq, Bool.not_eq_true', Bool.not_eq_false]
 by_cases k : (f1 == x1 && (f2 == x2 && (f3 == x3 && f4 == x4))) = true
 ·left
  simp only [Bool.and_eq_true, beq_iff_eq] at k
  by_cases k2 : f0 <= g0
  ·exact Or.inl k2
  ·exact Or.inr (Classical.byContradiction fun k3 => h ⟨⟨by omega, fun a b c d => k3 ⟨a, b, c, d⟩⟩, k⟩)
 ·exact Or.inr (Bool.eq_false_iff.2 k)
theorem bw2 {f1 f2 f3 f4 x1 x2 x3 x4 : Int} (A : Bool) (h : ¬ (f1 = x1 /\ f2 = x2 /\ f3 = x3 /\ f4 = x4)) :
 (!(decide True && (decide False && A || !(f1 == x1 && (f2 == x2 && (f3 == x3 && f4 == x4)))))) = false := by
 simp only [decide_true, decide_false, Bool.true_and, Bool.false_and, Bool.false_or, Bool.not_not]
 exact Bool.eq_false_iff.2 fun k => h (by simpa only [Bool.and_eq_true, beq_iff_eq] using k)
theorem okW : Ae Tryd.prog G0 16 pW leW /\ PostOK leW.ent Og := by
 refine cWok.loopJ mixed muW false ⟨_, _, _, Tryd.func16, rfl, rfl⟩ 9216 rfl rfl ?_
 go_invoke
 refine ⟨_, _, _, _, rfl, by kernel_rfl, ?_⟩
 intro b hb q0 hq0 q1 hq1 q2 hq2 q3 hq3 L L2 n hn i hi hp φ hφ l hS hF ρ hρe hd
 have F38 := hF 38 e38 rfl rfl
 simp only [eqL, Nat.reduceAdd] at hρe
 have hSS := Jj (Jj (Jj F38 hS) (Jj hρe (Jj hb hq0))) (Jj (Jj hq1 hq2) (Jj hq3 (Jj hn hi)))
 obtain ⟨p0, p1, p2, p3, p4, p5⟩ := hp
 replace p0 : L = L2 := p0
 subst p0
 replace p1 : rowsOK clK (dc L) := p1
 simp only [ewY, seval] at p2 p3 p4 p5
 by_cases c : i < n
 ·have k1 : i.toNat - 1 = (i - 1).toNat := by omega
  have k2 : i > 0 -> 0 < i.toNat := by omega
  have k3 : ¬ i > 0 -> ¬ 0 < i.toNat := by omega
  obtain ⟨r, er, hr, _, _⟩ := Az p1 p3 (by omega : i < ((dc L).length : Int))
  obtain ⟨f0, r1, rfl, a0, hr⟩ := Aa hr
  obtain ⟨f1, r1, rfl, a1, hr⟩ := Aa hr
  obtain ⟨f2, r1, rfl, a2, hr⟩ := Aa hr
  obtain ⟨f3, r1, rfl, a3, hr⟩ := Aa hr
  obtain ⟨f4, r1, rfl, a4, hr⟩ := Aa hr
  obtain rfl := Ba hr
  simp only [Ad] at a0 a1 a2 a3 a4
  have z := ok38.2 [f1, f2, f3, f4, q0, q1, q2, q3] ⟨a1, a2, a3, a4, hq0, hq1, hq2, hq3, trivial⟩ trivial
  have z : [IntKind.u64.wrap (e38.fn 0 [f1, f2, f3, f4, q0, q1, q2, q3]), IntKind.u64.wrap (e38.fn 1 [f1, f2, f3, f4, q0, q1, q2, q3]), IntKind.u64.wrap (e38.fn 2 [f1, f2, f3, f4, q0, q1, q2, q3]), IntKind.u64.wrap (e38.fn 3 [f1, f2, f3, f4, q0, q1, q2, q3])] = [bitsI .andNot .u64 f1 q0, bitsI .andNot .u64 f2 q1, bitsI .andNot .u64 f3 q2, bitsI .andNot .u64 f4 q3] := z
  simp only [List.cons.injEq, and_true] at z
  obtain ⟨z0, z1, z2, z3⟩ := z
  obtain ⟨x1, hx1⟩ : ∃ x, bitsI .andNot .u64 f1 q0 = x := ⟨_, rfl⟩
  obtain ⟨x2, hx2⟩ : ∃ x, bitsI .andNot .u64 f2 q1 = x := ⟨_, rfl⟩
  obtain ⟨x3, hx3⟩ : ∃ x, bitsI .andNot .u64 f3 q2 = x := ⟨_, rfl⟩
  obtain ⟨x4, hx4⟩ : ∃ x, bitsI .andNot .u64 f4 q3 = x := ⟨_, rfl⟩
  rw [hx1] at z0
  rw [hx2] at z1
  rw [hx3] at z2
  rw [hx4] at z3
  have w1 : IntKind.i64.wrap (i - 1) = i - 1 := i64w (by omega) (by omega)
  have w2 : IntKind.i64.wrap (i + 1) = i + 1 := i64w (by omega) (by omega)
  have hz : (List.zipWith (bitsI .andNot .u64) [f1, f2, f3, f4] [q0, q1, q2, q3] : List Int) = [x1, x2, x3, x4] := by rw [<- hx1, <- hx2, <- hx3, <- hx4]; rfl
  have y0 : e38.pre [f1, f2, f3, f4, q0, q1, q2, q3] := trivial
  have hil : i.toNat < (dc L).length := by omega
  have yp : lbW.ent.pre [b, q0, q1, q2, q3, L, L, n, i + 1] := ⟨rfl, p1, p2, by show 0 <= i + 1; omega, by show i + 1 <= n; omega, p5⟩
  have ym : muW [b, q0, q1, q2, q3, L, L, n, i + 1] < muW [b, q0, q1, q2, q3, L, L, n, i] := by show (n - (i + 1)).toNat < (n - i).toNat; omega
  have ih := hφ [b, q0, q1, q2, q3, L, L, n, i + 1] ⟨hb, hq0, hq1, hq2, hq3, rfl, rfl, hn, w2, trivial⟩ yp ym
  obtain ⟨v0, hv0⟩ : ∃ v, K.b.norm (φ 0 [b, q0, q1, q2, q3, L, L, n, i + 1]) = v := ⟨_, rfl⟩
  obtain ⟨v1, hv1⟩ : ∃ v, K.b.norm (φ 1 [b, q0, q1, q2, q3, L, L, n, i + 1]) = v := ⟨_, rfl⟩
  have ih : (v0 = 1 /\ ∀ j : Nat, (i + 1).toNat <= j -> j < (dc L).length -> rowG (dc L) [q0, q1, q2, q3] j) \/ (v0 = 0 /\ v1 = 0 /\ ∃ j : Nat, j < (dc L).length /\ ¬ rowG (dc L) [q0, q1, q2, q3] j) := by rw [<- hv0, <- hv1]; exact ih
  have fin : ∀ (C : Prop) [Decidable C] (E : Bool), (C ↔ rowG (dc L) [q0, q1, q2, q3] i.toNat) -> (¬ C -> E = false) -> Og [b, q0, q1, q2, q3, L, L, n, i] [if C /\ i2b v0 = true then 1 else 0, if C /\ i2b v0 = true then v1 else b2i (E && i2b v1)] := fun C _ E hC hE => by
   rcases ih with ⟨rfl, g⟩ | ⟨rfl, rfl, g⟩
   ·by_cases h : C
    ·rw [if_pos ⟨h, rfl⟩]
     refine Or.inl ⟨rfl, fun j (j1 : i.toNat <= j) j2 => ?_⟩
     rcases (show j = i.toNat \/ (i + 1).toNat <= j by omega) with rfl | j3
     ·exact hC.1 h
     ·exact g j j3 j2
    ·rw [if_neg fun hh => h hh.1, if_neg fun hh => h hh.1, hE h]
     exact Or.inr ⟨rfl, rfl, i.toNat, hil, fun hh => h (hC.2 hh)⟩
   ·have h0 : ¬ (C /\ i2b 0 = true) := fun hh => by cases hh.2
    rw [if_neg h0, if_neg h0]
    refine Or.inr ⟨rfl, ?_, g⟩
    show b2i (E && i2b 0) = 0
    cases E <;> rfl
  by_cases c0 : i > 0
  ·obtain ⟨r, er', hr, _, _⟩ := Az p1 (by omega : 0 <= i - 1) (by omega : i - 1 < ((dc L).length : Int))
   obtain ⟨g0, r1, rfl, b0, hr⟩ := Aa hr
   obtain ⟨g1, r1, rfl, b1, hr⟩ := Aa hr
   obtain ⟨g2, r1, rfl, b2, hr⟩ := Aa hr
   obtain ⟨g3, r1, rfl, b3, hr⟩ := Aa hr
   obtain ⟨g4, r1, rfl, b4, hr⟩ := Aa hr
   obtain rfl := Ba hr
   simp only [Ad] at b0 b1 b2 b3 b4
   have hG : ((g0 < f0 /\ (g1 = f1 -> g2 = f2 -> g3 = f3 -> ¬g4 = f4)) /\ f1 = x1 /\ f2 = x2 /\ f3 = x3 /\ f4 = x4) ↔ rowG (dc L) [q0, q1, q2, q3] i.toNat := by
    unfold rowG
    rw [er, k1, er']
    simp only [List.drop_succ_cons, List.drop_zero, hz, List.cons.injEq, and_true, ne_eq, List.getD_cons_zero]
    constructor
    ·rintro ⟨⟨h1, h2⟩, h3⟩
     exact ⟨fun _ => ⟨h1, fun h => h2 h.1 h.2.1 h.2.2.1 h.2.2.2⟩, h3⟩
    ·rintro ⟨h1, h3⟩
     obtain ⟨h4, h5⟩ := h1 (k2 c0)
     exact ⟨⟨h4, fun k1 k2 k3 k4 => h5 ⟨k1, k2, k3, k4⟩⟩, h3⟩
   refine ⟨?_, ?_⟩
   ·simp (disch := omega) only [ewZ, reduceCtorEq, seval, hSS, c, c0, er, er', a0, a1, a2, a3, a4, b0, b1, b2, b3, b4, w1, w2, z0, z1, z2, z3]
    exact ⟨⟨⟨p3, by omega⟩, ⟨by omega, by omega⟩, ⟨by omega, by omega⟩, fun _ => ⟨by omega, by omega⟩, fun _ => ⟨by omega, by omega⟩, fun _ => y0⟩, fun _ => ⟨yp, ym⟩⟩
   ·simp (disch := omega) only [ewZ, reduceCtorEq, seval, hSS, c, c0, er, er', a0, a1, a2, a3, a4, b0, b1, b2, b3, b4, w1, w2, z0, z1, z2, z3, hv0, hv1]
    exact fin _ _ hG fun h => by
     exact bw1 h
  ·have hG : (f1 = x1 /\ f2 = x2 /\ f3 = x3 /\ f4 = x4) ↔ rowG (dc L) [q0, q1, q2, q3] i.toNat := by
    unfold rowG
    rw [er]
    simp only [List.drop_succ_cons, List.drop_zero, hz, List.cons.injEq, and_true]
    exact ⟨fun h => ⟨fun h' => absurd h' (k3 c0), h⟩, fun h => h.2⟩
   refine ⟨?_, ?_⟩
   ·simp (disch := omega) only [ewZ, reduceCtorEq, seval, hSS, c, c0, er, a0, a1, a2, a3, a4, w1, w2, z0, z1, z2, z3]
    exact ⟨⟨⟨p3, by omega⟩, y0⟩, fun _ => ⟨yp, ym⟩⟩
   ·simp (disch := omega) only [ewZ, reduceCtorEq, seval, hSS, c, c0, er, a0, a1, a2, a3, a4, w1, w2, z0, z1, z2, z3, hv0, hv1]
    exact fin _ _ hG fun h => by
     exact bw2 _ h
 ·refine ⟨?_, ?_⟩ <;> simp (disch := omega) only [ewZ, reduceCtorEq, seval, hSS, c]
  ·refine Or.inl ⟨rfl, fun j (h1 : i.toNat <= j) h2 => ?_⟩
   have h2 : j < (dc L).length := h2
   omega
def belR (R : RL) (v : Int) : RL := R.filter fun r => decide (r.getD 0 0 <= v)
def selR (R : RL) (v : Int) : List Int := (lstR (belR R v)).drop 1
theorem Lq {R S : RL} {j : Nat} (h : j < R.length) : (R ++ S).getD j [] = R.getD j [] := by
 rw [List.getD_eq_getElem?_getD, List.getD_eq_getElem?_getD, List.getElem?_append_left h]
theorem Uc {R : RL} (r : List Int) : (R ++ [r]).getD R.length [] = r := by
 rw [List.getD_eq_getElem?_getD, List.getElem?_append_right (Nat.le_refl _), Nat.sub_self]; rfl
theorem J7 (R : RL) (r : List Int) : lstR (R ++ [r]) = r := by
 unfold lstR
 rw [List.getD_eq_getElem?_getD, List.length_append, List.length_singleton, Nat.add_sub_cancel, List.getElem?_append_right (Nat.le_refl _), Nat.sub_self]; rfl
theorem QE (A : List RL) (o : RL) (b : List Int) (y : Int) : mrgF A o (b ++ [y]) = addC A (mrgF A o b) y := by
 unfold mrgF; rw [List.foldl_append]; rfl
structure Mrg (A : List RL) (b : List Int) (R : RL) : Prop where
 rows : ∀ r ∈ R, ∃ x ∈ b, r = x :: setF A x 0 z4
 inc : R.Pairwise fun p q => p.getD 0 0 < q.getD 0 0
 hd : b ≠ [] -> R ≠ [] /\ (R.getD 0 []).getD 0 0 = b.getD 0 0
 lst : ∀ y, b.getLast? = some y -> (lstR R).drop 1 = setF A y 0 z4
 sel : ∀ x ∈ b, belR R x ≠ [] /\ selR R x = setF A x 0 z4
 dif : ∀ j, j + 1 < R.length -> (R.getD j []).drop 1 ≠ (R.getD (j + 1) []).drop 1
 len : R.length <= b.length
theorem Lr {R : RL} {v : Int} (h : ∀ r ∈ R, r.getD 0 0 <= v) : belR R v = R := List.filter_eq_self.2 fun r hr => by simpa using h r hr
theorem Ls (A : List RL) : ∀ (n : Nat) (b : List Int), b.length = n -> b.Pairwise (fun x y => x < y) -> Mrg A b (mrgF A [] b) := by
 intro n
 induction n with
 | zero =>
   intro b hb _
   obtain rfl := List.eq_nil_of_length_eq_zero hb
   exact ⟨fun r hr => (by cases hr), List.Pairwise.nil, fun h => absurd rfl h, fun y hy => (by cases hy), fun x hx => (by cases hx), fun j hj => (by simp [mrgF] at hj), Nat.le_refl _⟩
 | succ n ih =>
   intro b hb hp
   obtain ⟨b', y, rfl⟩ : ∃ b' y, b = b' ++ [y] := ⟨b.dropLast, b.getLast (by intro h; simp [h] at hb), (List.dropLast_concat_getLast _).symm⟩
   rw [List.pairwise_append] at hp
   obtain ⟨hp1, _, hp2⟩ := hp
   have hlt : ∀ x ∈ b', x < y := fun x hx => hp2 x hx y (List.mem_singleton.2 rfl)
   have ih := ih b' (by simpa using hb) hp1
   rw [QE]
   obtain ⟨R, hR⟩ : ∃ R, mrgF A [] b' = R := ⟨_, rfl⟩
   rw [hR] at ih ⊢
   have hle : ∀ r ∈ R, r.getD 0 0 < y := fun r hr => by
    obtain ⟨x, hx, rfl⟩ := ih.rows r hr
    exact hlt x hx
   unfold addC
   by_cases c : R.length = 0 \/ (lstR R).drop 1 ≠ setF A y 0 z4
   ·rw [if_pos c]
    refine ⟨fun r hr => ?_, ?_, fun _ => ⟨by simp, ?_⟩, fun z hz => ?_, fun x hx => ?_, fun j hj => ?_, ?_⟩
    ·rcases List.mem_append.1 hr with hr | hr
     ·obtain ⟨x, hx, e⟩ := ih.rows r hr
      exact ⟨x, List.mem_append_left _ hx, e⟩
     ·obtain rfl := List.mem_singleton.1 hr
      exact ⟨y, by simp, rfl⟩
    ·rw [List.pairwise_append]
     refine ⟨ih.inc, List.pairwise_singleton _ _, fun p hp q hq => ?_⟩
     obtain rfl := List.mem_singleton.1 hq
     exact hle p hp
    ·cases b' with
     | nil =>
       have : R = [] := by rw [<- hR]; rfl
       subst this; rfl
     | cons x b'' =>
       obtain ⟨h1, h2⟩ := ih.hd (by simp)
       cases R with
       | nil => exact absurd rfl h1
       | cons r R' => simpa using h2
    ·rw [List.getLast?_append] at hz
     simp at hz
     subst hz
     rw [J7]; rfl
    ·have hyy : belR (R ++ [y :: setF A y 0 z4]) y = R ++ [y :: setF A y 0 z4] := Lr fun r hr => by
      rcases List.mem_append.1 hr with hr | hr
      ·exact Int.le_of_lt (hle r hr)
      ·obtain rfl := List.mem_singleton.1 hr
       exact Int.le_refl _
     rcases List.mem_append.1 hx with hx | hx
     ·have := ih.sel x hx
      have hxy := hlt x hx
      have e : belR (R ++ [y :: setF A y 0 z4]) x = belR R x := by
       unfold belR
       rw [List.filter_append]
       simp [show ¬ y <= x by omega]
      unfold selR
      rw [e]
      exact this
     ·obtain rfl := List.mem_singleton.1 hx
      unfold selR
      rw [hyy, J7]
      exact ⟨by simp, rfl⟩
    ·rw [List.length_append, List.length_singleton] at hj
     by_cases hj2 : j + 1 < R.length
     ·have := ih.dif j hj2
      rwa [Lq (by omega), Lq (by omega)]
     ·have hj3 : j + 1 = R.length := by omega
      rw [Lq (by omega), hj3, Uc]
      rcases c with c | c
      ·omega
      ·have : R.getD j [] = lstR R := by unfold lstR; rw [<- hj3]; rfl
       rw [this]
       exact c
    ·simp; exact ih.len
   ·rw [if_neg c]
    have c1 : R.length ≠ 0 := fun h => c (Or.inl h)
    have c2 : (lstR R).drop 1 = setF A y 0 z4 := Classical.byContradiction fun h => c (Or.inr h)
    have hb' : b' ≠ [] := fun h => by subst h; apply c1; rw [<- hR]; rfl
    refine ⟨fun r hr => ?_, ih.inc, fun _ => ⟨(ih.hd hb').1, ?_⟩, fun z hz => ?_, fun x hx => ?_, ih.dif, ?_⟩
    ·obtain ⟨x, hx, e⟩ := ih.rows r hr
     exact ⟨x, List.mem_append_left _ hx, e⟩
    ·cases b' with
     | nil => exact absurd rfl hb'
     | cons x b'' => simpa using (ih.hd hb').2
    ·rw [List.getLast?_append] at hz
     simp at hz
     subst hz
     exact c2
    ·rcases List.mem_append.1 hx with hx | hx
     ·exact ih.sel x hx
     ·obtain rfl := List.mem_singleton.1 hx
      unfold selR
      rw [Lr fun r hr => Int.le_of_lt (hle r hr)]
      exact ⟨fun h => c1 (by rw [h]; rfl), c2⟩
    ·simp; have := ih.len; omega
theorem Ud {t : Int} {q : RL} {x v : Int} (hxv : x <= v) (hv : v <= t) (h1 : ∀ r ∈ q, r.getD 0 0 <= v -> r.getD 0 0 <= x) (h2 : ∀ r ∈ q, r.getD 1 0 < t -> ¬ (x < r.getD 1 0 + 1 /\ r.getD 1 0 + 1 <= v)) : inS q v = inS q x := by
 unfold inS
 induction q with
 | nil => rfl
 | cons r q ih =>
   rw [List.any_cons, List.any_cons, ih (fun r hr => h1 r (List.mem_cons_of_mem _ hr)) fun r hr => h2 r (List.mem_cons_of_mem _ hr)]
   have a1 := h1 r (List.mem_cons_self ..)
   have a2 := h2 r (List.mem_cons_self ..)
   have : inR v r = inR x r := by
    unfold inR
    rw [show decide (r.getD 0 0 <= v) = decide (r.getD 0 0 <= x) from decide_eq_decide.2 ⟨a1, fun h => by omega⟩,
     show decide (v <= r.getD 1 0) = decide (x <= r.getD 1 0) from decide_eq_decide.2 ⟨fun h => by omega, fun h => Classical.byContradiction fun h' => a2 (by omega) (by omega)⟩]
   rw [this]
theorem MR {v x : Int} : ∀ (A : List RL) (j : Nat) (s : List Int), (∀ q ∈ A, inS q v = inS q x) -> setF A v j s = setF A x j s
 | [], _, _, _ => rfl
 | q :: A, j, s, h => by
   show setF A v (j + 1) (if inS q v = true then orB j s else s) = setF A x (j + 1) (if inS q x = true then orB j s else s)
   rw [h q (List.mem_cons_self ..), MR A (j + 1) _ fun q hq => h q (List.mem_cons_of_mem _ hq)]
theorem J8 (v : Int) : ∀ (b : List Int), (∃ x ∈ b, x <= v) -> ∃ x ∈ b, x <= v /\ ∀ y ∈ b, y <= v -> y <= x
 | [], h => by obtain ⟨x, hx, _⟩ := h; cases hx
 | y :: b, h => by
   by_cases c : ∃ x ∈ b, x <= v
   ·obtain ⟨x, h1, h2, h3⟩ := J8 v b c
    by_cases d : y <= v /\ x < y
    ·exact ⟨y, List.mem_cons_self .., d.1, fun z hz hzv => by
      rcases List.mem_cons.1 hz with rfl | hz
      ·exact Int.le_refl _
      ·have := h3 z hz hzv; omega⟩
    ·exact ⟨x, List.mem_cons_of_mem _ h1, h2, fun z hz hzv => by
      rcases List.mem_cons.1 hz with rfl | hz
      ·exact Classical.byContradiction fun h => d ⟨hzv, by omega⟩
      ·exact h3 z hz hzv⟩
   ·obtain ⟨x, h1, h2⟩ := h
    rcases List.mem_cons.1 h1 with rfl | h1
    ·exact ⟨x, List.mem_cons_self .., h2, fun z hz hzv => by
      rcases List.mem_cons.1 hz with rfl | hz
      ·exact Int.le_refl _
      ·exact absurd ⟨z, hz, hzv⟩ c⟩
    ·exact absurd ⟨x, h1, h2⟩ c
theorem MS {t : Int} {A : List RL} {b : List Int} (hb : brdP t A.flatten b) {q : RL} (hq : q ∈ A) {r : List Int} (hr : r ∈ q) : r.getD 0 0 ∈ b /\ (r.getD 1 0 < t -> r.getD 1 0 + 1 ∈ b) := by
 have hm : r ∈ A.flatten := List.mem_flatten.2 ⟨q, hq, hr⟩
 have hs : ∀ x, [x] ∈ brR t r -> x ∈ b := fun x hx => (hb.2.1 x).2 (List.mem_cons_of_mem _ (List.mem_flatMap.2 ⟨r, hm, hx⟩))
 refine ⟨hs _ (List.mem_cons_self ..), fun h => hs _ ?_⟩
 unfold brR
 rw [if_pos h]
 exact List.mem_cons_of_mem _ (List.mem_cons_self ..)
theorem TA {t : Int} {A : List RL} {b : List Int} (hb : brdP t A.flatten b) {v : Int} (h0 : 0 <= v) (h1 : v <= t) :
 belR (mrgF A [] b) v ≠ [] /\ selR (mrgF A [] b) v = setF A v 0 z4 := by
 have hM := Ls A _ b rfl hb.1
 obtain ⟨x, hx, hxv, hmax⟩ := J8 v b ⟨0, (hb.2.1 0).2 (List.mem_cons_self ..), h0⟩
 have e1 : setF A v 0 z4 = setF A x 0 z4 := MR A 0 z4 fun q hq => Ud hxv h1 (fun r hr h => hmax _ (MS hb hq hr).1 h) fun r hr h h' => by
  have := hmax _ ((MS hb hq hr).2 h) h'.2
  omega
 have e2 : belR (mrgF A [] b) v = belR (mrgF A [] b) x := by
  unfold belR
  refine List.filter_congr fun r hr => ?_
  obtain ⟨y, hy, rfl⟩ := hM.rows r hr
  refine decide_eq_decide.2 ⟨fun h => hmax y hy h, fun h => ?_⟩
  have h : y <= x := h
  show y <= v
  omega
 have := hM.sel x hx
 unfold selR
 rw [e1, e2]
 exact this
theorem QF {x y : Int} (hx : IntKind.u64.wrap x = x) (hy : IntKind.u64.wrap y = y) : bitsI .and .u64 x y = ((x.toNat &&& y.toNat : Nat) : Int) := by
 rw [IntKind.wrap_u64] at hx hy
 have h : x.toNat &&& y.toNat < 2 ^ 64 := Nat.lt_of_le_of_lt Nat.and_le_left (by omega)
 have e1 : (BitVec.ofInt 64 x).toNat = x.toNat := by rw [BitVec.toNat_ofInt]; omega
 have e2 : (BitVec.ofInt 64 y).toNat = y.toNat := by rw [BitVec.toNat_ofInt]; omega
 show IntKind.u64.wrap ((BitVec.ofInt 64 x &&& BitVec.ofInt 64 y).toNat : Int) = _
 rw [BitVec.toNat_and, e1, e2, IntKind.wrap_u64]
 omega
theorem or64 {x y : Int} (hx : IntKind.u64.wrap x = x) (hy : IntKind.u64.wrap y = y) : bitsI .or .u64 x y = ((x.toNat ||| y.toNat : Nat) : Int) := by
 rw [IntKind.wrap_u64] at hx hy
 have h : x.toNat ||| y.toNat < 2 ^ 64 := Nat.or_lt_two_pow (by omega) (by omega)
 have e1 : (BitVec.ofInt 64 x).toNat = x.toNat := by rw [BitVec.toNat_ofInt]; omega
 have e2 : (BitVec.ofInt 64 y).toNat = y.toNat := by rw [BitVec.toNat_ofInt]; omega
 show IntKind.u64.wrap ((BitVec.ofInt 64 x ||| BitVec.ofInt 64 y).toNat : Int) = _
 rw [BitVec.toNat_or, e1, e2, IntKind.wrap_u64]
 omega
theorem SB (j : Nat) : ∃ P : Nat, 2 ^ (j % 64) = P /\ (2 : Int) ^ (j % 64) = (P : Int) /\ P <= 9223372036854775808 /\ (P : Int).toNat = P /\ IntKind.u64.wrap (P : Int) = P := by
 have h2 : 2 ^ (j % 64) <= 2 ^ 63 := Nat.pow_le_pow_right (by omega) (by omega)
 obtain ⟨P, hP⟩ : ∃ P, 2 ^ (j % 64) = P := ⟨_, rfl⟩
 refine ⟨P, hP, by rw [<- hP, Int.natCast_pow]; rfl, by omega, Int.toNat_natCast _, ?_⟩
 rw [IntKind.wrap_u64]
 omega
def setOK (s : List Int) : Prop := s.length = 4 /\ ∀ x ∈ s, IntKind.u64.wrap x = x
def bitS (s : List Int) (j : Nat) : Bool := (s.getD (j / 64) 0).toNat.testBit (j % 64)
theorem setOK.at {s : List Int} (h : setOK s) (i : Nat) : IntKind.u64.wrap (s.getD i 0) = s.getD i 0 := by
 by_cases c : i < s.length
 ·have e : s.getD i 0 = s[i] := by simp [List.getD, c]
  rw [e]; exact h.2 _ (List.getElem_mem c)
 ·have e : s.getD i 0 = 0 := by simp [List.getD, c]
  rw [e]; rfl
theorem setOK.orb {s : List Int} (h : setOK s) (j : Nat) : setOK (orB j s) := by
 refine ⟨by unfold orB; rw [List.length_set]; exact h.1, fun x hx => ?_⟩
 rcases List.mem_or_eq_of_mem_set hx with hx | rfl
 ·exact h.2 x hx
 ·obtain ⟨P, h1, h2, h3, h4, h5⟩ := SB j
  rw [h2, or64 (h.at _) h5, h4]
  have h1 := h.at (j / 64)
  rw [IntKind.wrap_u64] at h1
  have : (s.getD (j / 64) 0).toNat ||| P < 2 ^ 64 := Nat.or_lt_two_pow (by omega) (by omega)
  rw [IntKind.wrap_u64]
  omega
theorem Fx {s : List Int} (h : setOK s) {j : Nat} (hj : j < 256) (i : Nat) : bitS (orB j s) i = (decide (i = j) || bitS s i) := by
 have h4 := h.1
 unfold bitS orB
 by_cases c : i / 64 = j / 64
 ·have e : (s.set (j / 64) (bitsI .or .u64 (s.getD (j / 64) 0) (2 ^ (j % 64)))).getD (i / 64) 0 = bitsI .or .u64 (s.getD (j / 64) 0) (2 ^ (j % 64)) := by
   rw [c, List.getD_eq_getElem?_getD, List.getElem?_set_self (by omega)]; rfl
  obtain ⟨P, h1, h2, h3, h4, h5⟩ := SB j
  rw [e, h2, or64 (h.at _) h5, c, h4, Int.toNat_natCast, Nat.testBit_or, <- h1, Nat.testBit_two_pow, Bool.or_comm]
  congr 1
  exact decide_eq_decide.2 ⟨fun h => by omega, fun h => by omega⟩
 ·have e : (s.set (j / 64) (bitsI .or .u64 (s.getD (j / 64) 0) (2 ^ (j % 64)))).getD (i / 64) 0 = s.getD (i / 64) 0 := by
   rw [List.getD_eq_getElem?_getD, List.getElem?_set_ne (by omega), List.getD_eq_getElem?_getD]
  rw [e, show decide (i = j) = false from decide_eq_false fun h => c (by rw [h]), Bool.false_or]
theorem Oh : setOK z4 := ⟨rfl, fun x hx => by
 simp only [z4, List.mem_cons, List.not_mem_nil, or_false] at hx
 rcases hx with rfl | rfl | rfl | rfl <;> rfl⟩
theorem Jg (j : Nat) : bitS z4 j = false := by
 have : ∀ i, z4.getD i 0 = 0 := fun i => by
  match i with
  | 0 | 1 | 2 | 3 => rfl
  | n + 4 => rfl
 unfold bitS; rw [this]; simp
theorem J9 (v : Int) : ∀ (A : List RL) (k : Nat) (s : List Int), setOK s -> k + A.length <= 256 -> setOK (setF A v k s) /\ ∀ i, bitS (setF A v k s) i = (bitS s i || (decide (k <= i) && inS (A.getD (i - k) []) v))
 | [], k, s, h, _ => ⟨h, fun i => by
  have : inS (([] : List RL).getD (i - k) []) v = false := rfl
  rw [this, Bool.and_false, Bool.or_false]; rfl⟩
 | q :: A, k, s, h, hk => by
   rw [List.length_cons] at hk
   have hs' : setOK (if inS q v = true then orB k s else s) := by split; exact h.orb k; exact h
   obtain ⟨h1, h2⟩ := J9 v A (k + 1) (if inS q v = true then orB k s else s) hs' (by omega)
   refine ⟨h1, fun i => ?_⟩
   show bitS (setF A v (k + 1) (if inS q v = true then orB k s else s)) i = _
   rw [h2 i]
   have e : bitS (if inS q v = true then orB k s else s) i = ((decide (i = k) && inS q v) || bitS s i) := by
    by_cases c : inS q v = true
    ·rw [if_pos c, Fx h (by omega), c, Bool.and_true]
    ·rw [if_neg c, Bool.eq_false_iff.2 c, Bool.and_false, Bool.false_or]
   rw [e]
   by_cases c1 : i = k
   ·subst c1
    simp [List.getD_cons_zero, Bool.or_comm, show ¬ i + 1 <= i by omega]
   ·by_cases c2 : k <= i
    ·rw [show i - k = (i - (k + 1)) + 1 by omega, List.getD_cons_succ]
     simp [c1, c2, show k + 1 <= i by omega]
    ·simp [c1, c2, show ¬ k + 1 <= i by omega]
def insU (x : Int) : List Int -> List Int
 | [] => [x]
 | y :: l => if x < y then x :: y :: l else if x = y then y :: l else y :: insU x l
def srtU (l : List Int) : List Int := l.foldr insU []
theorem HB (x z : Int) : ∀ l : List Int, z ∈ insU x l ↔ z = x \/ z ∈ l
 | [] => by simp [insU]
 | y :: l => by
   unfold insU
   split
   ·simp
   ·split
    ·rename_i h; subst h; simp
    ·rw [List.mem_cons, HB x z l, List.mem_cons]
     constructor
     ·rintro (h | h | h)
      ·exact Or.inr (Or.inl h)
      ·exact Or.inl h
      ·exact Or.inr (Or.inr h)
     ·rintro (h | h | h)
      ·exact Or.inr (Or.inl h)
      ·exact Or.inl h
      ·exact Or.inr (Or.inr h)
theorem MT (x : Int) : ∀ l : List Int, l.Pairwise (fun a b => a < b) -> (insU x l).Pairwise fun a b => a < b
 | [], _ => List.pairwise_singleton _ _
 | y :: l, h => by
   obtain ⟨h1, h2⟩ := List.pairwise_cons.1 h
   unfold insU
   split
   ·rename_i c
    exact List.pairwise_cons.2 ⟨fun z hz => by
     rcases List.mem_cons.1 hz with rfl | hz
     ·exact c
     ·have := h1 z hz; omega, h⟩
   ·split
    ·exact h
    ·exact List.pairwise_cons.2 ⟨fun z hz => by
      rcases (HB x z l).1 hz with rfl | hz
      ·omega
      ·exact h1 z hz, MT x l h2⟩
theorem Lt (z : Int) : ∀ l : List Int, z ∈ srtU l ↔ z ∈ l
 | [] => Iff.rfl
 | y :: l => by
   show z ∈ insU y (srtU l) ↔ _
   rw [HB, Lt z l, List.mem_cons]
theorem MU : ∀ l : List Int, (srtU l).Pairwise fun a b => a < b
 | [] => List.Pairwise.nil
 | y :: l => MT y _ (MU l)
theorem Jh : ∀ v w : List Int, v.Pairwise (fun a b => a < b) -> w.Pairwise (fun a b => a < b) -> (∀ x, x ∈ v ↔ x ∈ w) -> v = w
 | [], [], _, _, _ => rfl
 | [], y :: w, _, _, h => by have := (h y).2 (List.mem_cons_self ..); cases this
 | x :: v, [], _, _, h => by have := (h x).1 (List.mem_cons_self ..); cases this
 | x :: v, y :: w, hv, hw, h => by
   obtain ⟨a1, a2⟩ := List.pairwise_cons.1 hv
   obtain ⟨b1, b2⟩ := List.pairwise_cons.1 hw
   have e : x = y := by
    rcases List.mem_cons.1 ((h x).1 (List.mem_cons_self ..)) with e | e
    ·exact e
    ·rcases List.mem_cons.1 ((h y).2 (List.mem_cons_self ..)) with e' | e'
     ·exact e'.symm
     ·have := b1 x e; have := a1 y e'; omega
   subst e
   rw [Jh v w a2 b2 fun z => ⟨fun hz => by
    rcases List.mem_cons.1 ((h z).1 (List.mem_cons_of_mem _ hz)) with rfl | hz'
    ·have := a1 _ hz; omega
    ·exact hz', fun hz => by
    rcases List.mem_cons.1 ((h z).2 (List.mem_cons_of_mem _ hz)) with rfl | hz'
    ·have := b1 _ hz; omega
    ·exact hz'⟩]
def brdF (t : Int) (l : RL) : List Int := srtU (0 :: l.flatMap fun r => r.getD 0 0 :: (if r.getD 1 0 < t then [r.getD 1 0 + 1] else []))
theorem RR {t : Int} {l : RL} {v : List Int} (h : brdP t l v) : v = brdF t l := by
 refine Jh v _ h.1 (MU _) fun x => ?_
 rw [h.2.1 x]
 unfold brdF brL
 rw [Lt, List.mem_cons, List.mem_cons, List.mem_flatMap, List.mem_flatMap]
 refine or_congr ⟨fun h => by simpa using h, fun h => by rw [h]⟩ ⟨?_, ?_⟩
 ·rintro ⟨r, hr, hx⟩
  refine ⟨r, hr, ?_⟩
  unfold brR at hx
  rcases List.mem_cons.1 hx with hx | hx
  ·simp only [List.cons.injEq, and_true] at hx; subst hx; exact List.mem_cons_self ..
  ·split at hx
   ·rename_i c
    rw [if_pos c]
    simp only [List.mem_singleton, List.cons.injEq, and_true] at hx
    subst hx; exact List.mem_cons_of_mem _ (List.mem_cons_self ..)
   ·cases hx
 ·rintro ⟨r, hr, hx⟩
  refine ⟨r, hr, ?_⟩
  unfold brR
  rcases List.mem_cons.1 hx with hx | hx
  ·subst hx; exact List.mem_cons_self ..
  ·split at hx
   ·rename_i c
    rw [if_pos c]
    obtain rfl := List.mem_singleton.1 hx
    exact List.mem_cons_of_mem _ (List.mem_cons_self ..)
   ·cases hx
theorem QG {x y : Int} (hx : IntKind.u64.wrap x = x) (hy : IntKind.u64.wrap y = y) : IntKind.u64.wrap (bitsI .andNot .u64 x y) = bitsI .andNot .u64 x y /\ 0 <= bitsI .andNot .u64 x y /\ ∀ i, i < 64 -> (bitsI .andNot .u64 x y).toNat.testBit i = (x.toNat.testBit i && !y.toNat.testBit i) := by
 rw [IntKind.wrap_u64] at hx hy
 have e1 : (BitVec.ofInt 64 x).toNat = x.toNat := by rw [BitVec.toNat_ofInt]; omega
 have e2 : (BitVec.ofInt 64 y).toNat = y.toNat := by rw [BitVec.toNat_ofInt]; omega
 obtain ⟨z, hz⟩ : ∃ z, (BitVec.ofInt 64 x &&& ~~~ BitVec.ofInt 64 y) = z := ⟨_, rfl⟩
 have h1 := z.isLt
 have e3 : bitsI .andNot .u64 x y = (z.toNat : Int) := by
  show IntKind.u64.wrap ((BitVec.ofInt 64 x &&& ~~~ BitVec.ofInt 64 y).toNat : Int) = _
  rw [hz, IntKind.wrap_u64]; omega
 refine ⟨by rw [e3, IntKind.wrap_u64]; omega, by rw [e3]; omega, fun i hi => ?_⟩
 rw [e3, Int.toNat_natCast, <- hz, BitVec.toNat_and, BitVec.toNat_not, e1, e2, Nat.testBit_and, show 2 ^ 64 - 1 - y.toNat = 2 ^ 64 - (y.toNat + 1) by omega, Nat.testBit_two_pow_sub_succ (by omega), decide_eq_true hi, Bool.true_and]
theorem TB {x y : Int} (hx : IntKind.u64.wrap x = x) (hy : IntKind.u64.wrap y = y) (h : ∀ i, i < 64 -> x.toNat.testBit i = y.toNat.testBit i) : x = y := by
 rw [IntKind.wrap_u64] at hx hy
 have : x.toNat = y.toNat := Nat.eq_of_testBit_eq fun i => by
  by_cases c : i < 64
  ·exact h i c
  ·have p : 2 ^ 64 <= 2 ^ i := Nat.pow_le_pow_right (by omega) (by omega)
   rw [Nat.testBit_lt_two_pow (by omega), Nat.testBit_lt_two_pow (by omega)]
 omega
theorem Ji {s t : List Int} (hs : setOK s) (ht : setOK t) (h : ∀ i, i < 256 -> bitS s i = bitS t i) : s = t := by
 refine List.ext_getElem (hs.1.trans ht.1.symm) fun i h1 h2 => ?_
 have e1 : s.getD i 0 = s[i] := by simp [List.getD, h1]
 have e2 : t.getD i 0 = t[i] := by simp [List.getD, h2]
 rw [<- e1, <- e2]
 refine TB (hs.at i) (ht.at i) fun b hb => ?_
 have h4 := hs.1
 have := h (64 * i + b) (by omega)
 unfold bitS at this
 rwa [show (64 * i + b) / 64 = i by omega, show (64 * i + b) % 64 = b by omega] at this
def wthS (s b : List Int) : List Int := List.zipWith (bitsI .andNot .u64) s b
theorem RS {s b : List Int} (hs : setOK s) (hb : setOK b) : setOK (wthS s b) /\ ∀ i, i < 256 -> bitS (wthS s b) i = (bitS s i && !bitS b i) := by
 have g : ∀ i, i < 4 -> (wthS s b).getD i 0 = bitsI .andNot .u64 (s.getD i 0) (b.getD i 0) := fun i hi => by
  have h1 : i < s.length := by rw [hs.1]; exact hi
  have h2 : i < b.length := by rw [hb.1]; exact hi
  unfold wthS
  simp [List.getD, List.getElem?_zipWith, h1, h2]
 have hl : (wthS s b).length = 4 := by unfold wthS; rw [List.length_zipWith, hs.1, hb.1]; rfl
 refine ⟨⟨hl, fun x hx => ?_⟩, fun i hi => ?_⟩
 ·obtain ⟨i, hi, rfl⟩ := List.getElem_of_mem hx
  have e : (wthS s b).getD i 0 = (wthS s b)[i] := by simp [List.getD, hi]
  rw [<- e, g i (by omega)]
  exact (QG (hs.at i) (hb.at i)).1
 ·unfold bitS
  rw [g _ (by omega)]
  exact (QG (hs.at _) (hb.at _)).2.2 _ (by omega)
def fldR (m : Int) (B : List Int) (L : RL) : Prop := 0 < L.length /\ (L.getD 0 []).getD 0 0 = 0 /\ (L.getD (L.length - 1) []).getD 0 0 <= m /\ ∀ j : Nat, j < L.length -> rowG L B j
def AJ (k : Nat) : Int := [1, 2, 4294967295, 4294967295, 65535, 65535, 63].getD k 0
def tabR (xs : List Int) : Prop := 0 <= env xs 0 /\ env xs 0 <= 256 /\ ∀ k : Nat, k < 7 -> fldR (AJ k) (beyF (env xs 0).toNat [0, 0, 0, 0]) (dc (env xs (k + 1)))
theorem MV : ∀ (l : List Nat) (s : List Int), setOK s -> (∀ j ∈ l, j < 256) -> setOK (l.foldl (fun s j => orB j s) s) /\ ∀ i, bitS (l.foldl (fun s j => orB j s) s) i = (decide (i ∈ l) || bitS s i)
 | [], s, h, _ => ⟨h, fun i => by simp⟩
 | j :: l, s, h, hl => by
   obtain ⟨h1, h2⟩ := MV l (orB j s) (h.orb j) fun k hk => hl k (List.mem_cons_of_mem _ hk)
   refine ⟨h1, fun i => ?_⟩
   show bitS (l.foldl (fun s j => orB j s) (orB j s)) i = _
   rw [h2 i, Fx h (hl j (List.mem_cons_self ..))]
   by_cases c : i = j
   ·subst c; simp
   ·simp [c]
theorem RT (n : Nat) : setOK (beyF n z4) /\ ∀ i, i < 256 -> bitS (beyF n z4) i = decide (n <= i) := by
 obtain ⟨h1, h2⟩ := MV ((List.range 256).drop n) z4 Oh fun j hj => List.mem_range.1 (List.mem_of_mem_drop hj)
 refine ⟨h1, fun i hi => ?_⟩
 unfold beyF
 rw [h2 i, Jg, Bool.or_false]
 refine decide_eq_decide.2 ⟨fun h => ?_, fun h => ?_⟩
 ·obtain ⟨k, hk, e⟩ := List.getElem_of_mem h
  rw [List.getElem_drop, List.getElem_range] at e
  omega
 ·have : i = ((List.range 256).drop n)[i - n]'(by simp; omega) := by rw [List.getElem_drop, List.getElem_range]; omega
  rw [this]
  exact List.getElem_mem _
theorem CB {A : List RL} (hl : A.length <= 256) (v : Int) : setOK (setF A v 0 z4) /\ (∀ i, bitS (setF A v 0 z4) i = inS (A.getD i []) v) /\ setF A v 0 z4 = wthS (setF A v 0 z4) (beyF A.length z4) := by
 obtain ⟨h1, h2⟩ := J9 v A 0 z4 Oh (by omega)
 have h3 : ∀ i, bitS (setF A v 0 z4) i = inS (A.getD i []) v := fun i => by
  rw [h2 i, Jg, Bool.false_or, Nat.sub_zero, decide_eq_true (Nat.zero_le _), Bool.true_and]
 obtain ⟨b1, b2⟩ := RT A.length
 obtain ⟨w1, w2⟩ := RS h1 b1
 refine ⟨h1, h3, Ji h1 w1 fun i hi => ?_⟩
 rw [w2 i hi, b2 i hi, h3 i]
 by_cases c : A.length <= i
 ·have : A.getD i [] = [] := by rw [List.getD_eq_getElem?_getD, List.getElem?_eq_none c]; rfl
  rw [this, decide_eq_true c]; rfl
 ·rw [decide_eq_false c, Bool.not_false, Bool.and_true]
def fldQ (m : Int) (B : List Int) (L : RL) : Prop := 0 < L.length /\ (L.getD 0 []).getD 0 0 = 0 /\ (L.getD (L.length - 1) []).getD 0 0 <= m /\ ∀ j : Nat, j < L.length -> (0 < j -> (L.getD (j - 1) []).getD 0 0 < (L.getD j []).getD 0 0 /\ (L.getD (j - 1) []).drop 1 ≠ (L.getD j []).drop 1) /\ (L.getD j []).drop 1 = wthS ((L.getD j []).drop 1) B
theorem CP {L : RL} {j : Nat} (h : j < L.length) : L.getD j [] ∈ L := by
 have : L.getD j [] = L[j] := by simp [List.getD, h]
 rw [this]; exact List.getElem_mem h
theorem CQ {R : RL} (h : R.Pairwise fun p q => p.getD 0 0 < q.getD 0 0) {i j : Nat} (hij : i < j) (hj : j < R.length) : (R.getD i []).getD 0 0 < (R.getD j []).getD 0 0 := by
 have hi : i < R.length := by omega
 have e1 : R.getD i [] = R[i] := by simp [List.getD, hi]
 have e2 : R.getD j [] = R[j] := by simp [List.getD, hj]
 rw [e1, e2]
 exact List.pairwise_iff_getElem.1 h i j hi hj hij
theorem QH {t : Int} {A : List RL} {b : List Int} (hb : brdP t A.flatten b) (ht : 0 <= t) (hl : A.length <= 256) (hA : ∀ q ∈ A, ∀ r ∈ q, 0 <= r.getD 0 0 /\ r.getD 0 0 <= t /\ 0 <= r.getD 1 0) :
 (∀ x ∈ b, 0 <= x /\ x <= t) /\ fldQ t (beyF A.length z4) (mrgF A [] b) /\ (mrgF A [] b).Pairwise (fun p q => p.getD 0 0 < q.getD 0 0) := by
 have hM := Ls A _ b rfl hb.1
 have hx : ∀ x ∈ b, 0 <= x /\ x <= t := fun x hx => by
  rcases List.mem_cons.1 ((hb.2.1 x).1 hx) with h | h
  ·simp only [List.cons.injEq, and_true] at h; omega
  ·obtain ⟨r, hr, h⟩ := List.mem_flatMap.1 h
   obtain ⟨q, hq, hr⟩ := List.mem_flatten.1 hr
   obtain ⟨a1, a2, a3⟩ := hA q hq r hr
   unfold brR at h
   rcases List.mem_cons.1 h with h | h
   ·simp only [List.cons.injEq, and_true] at h; omega
   ·split at h
    ·simp only [List.mem_singleton, List.cons.injEq, and_true] at h; omega
    ·cases h
 have h0 : (0 : Int) ∈ b := (hb.2.1 0).2 (List.mem_cons_self ..)
 have hne : b ≠ [] := fun h => by rw [h] at h0; cases h0
 obtain ⟨n1, n2⟩ := hM.hd hne
 have hb0 : b.getD 0 0 = 0 := by
  cases b with
  | nil => exact absurd rfl hne
  | cons x b =>
    have := hx x (List.mem_cons_self ..)
    rcases List.mem_cons.1 h0 with h | h
    ·exact h.symm
    ·have := (List.pairwise_cons.1 hb.1).1 0 h
     omega
 have hn : 0 < (mrgF A [] b).length := by
  cases h : mrgF A [] b with
  | nil => exact absurd h n1
  | cons _ _ => exact Nat.succ_pos _
 have hhd : ∀ r ∈ mrgF A [] b, 0 <= r.getD 0 0 /\ r.getD 0 0 <= t := fun r hr => by
  obtain ⟨x, h, rfl⟩ := hM.rows r hr
  exact hx x h
 refine ⟨hx, ⟨hn, n2.trans hb0, (hhd _ (CP (by omega))).2, fun j hj => ⟨fun h => ⟨?_, ?_⟩, ?_⟩⟩, hM.inc⟩
 ·exact CQ hM.inc (by omega) hj
 ·have := hM.dif (j - 1) (by omega)
  rwa [show j - 1 + 1 = j by omega] at this
 ·obtain ⟨x, h, e⟩ := hM.rows _ (CP hj)
  rw [e]
  exact (CB hl x).2.2
theorem Lu {R : RL} {v : Int} {n : Nat} (h1 : ∀ i, i < n -> (R.getD i []).getD 0 0 <= v) (h2 : ∀ i, n <= i -> i < R.length -> v < (R.getD i []).getD 0 0) (hn : n <= R.length) :
 belR R v = R.take n /\ selR R v = if n = 0 then [] else (R.getD (n - 1) []).drop 1 := by
 have e : belR R v = R.take n := by
  unfold belR
  rw [<- List.take_append_drop n R, List.filter_append, List.filter_eq_self.2, List.filter_eq_nil_iff.2, List.append_nil]
  ·rw [List.take_append_drop]
  ·intro r hr
   obtain ⟨i, hi, rfl⟩ := List.getElem_of_mem hr
   rw [List.length_drop] at hi
   rw [List.getElem_drop]
   have e : R.getD (n + i) [] = R[n + i] := by simp [List.getD, show n + i < R.length by omega]
   have := h2 (n + i) (by omega) (by omega)
   rw [e] at this
   simp only [decide_eq_true_eq]
   omega
  ·intro r hr
   obtain ⟨i, hi, rfl⟩ := List.getElem_of_mem hr
   rw [List.length_take] at hi
   rw [List.getElem_take]
   have e : R.getD i [] = R[i] := by simp [List.getD, show i < R.length by omega]
   have := h1 i (by omega)
   rw [e] at this
   exact decide_eq_true this
 refine ⟨e, ?_⟩
 unfold selR
 rw [e]
 unfold lstR
 rw [List.length_take, Nat.min_eq_left hn]
 by_cases c : n = 0
 ·subst c; rfl
 ·rw [if_neg c, List.getD_eq_getElem?_getD, List.getElem?_take_of_lt (by omega), List.getD_eq_getElem?_getD]
theorem Ue {mask want : Int} {v : Nat} : ∀ l : List Nat, [(v : Int), (v : Int)] ∈ flL mask want l ↔ v ∈ l /\ flW mask want v = true := fun l => by
 unfold flL
 rw [List.mem_map]
 constructor
 ·rintro ⟨w, hw, e⟩
  simp only [List.cons.injEq, and_true] at e
  have : w = v := by omega
  subst this
  exact List.mem_filter.1 hw
 ·rintro ⟨h1, h2⟩
  exact ⟨v, List.mem_filter.2 ⟨h1, h2⟩, rfl⟩
theorem MW (k : Nat) (hk : k <= 6) {r : List Int} (h : ruP r) (h0 : r.getD 0 0 <= 2) : ∀ q ∈ spF k r, 0 <= q.getD 0 0 /\ q.getD 0 0 <= lstF k /\ 0 <= q.getD 1 0 := by
 obtain ⟨hf, h4, h6⟩ := h
 obtain ⟨s0, r', rfl, a0, hf⟩ := Aa hf
 obtain ⟨s1, r', rfl, a1, hf⟩ := Aa hf
 obtain ⟨s2, r', rfl, a2, hf⟩ := Aa hf
 obtain ⟨s3, r', rfl, a3, hf⟩ := Aa hf
 obtain ⟨s4, r', rfl, a4, hf⟩ := Aa hf
 obtain ⟨s5, r', rfl, a5, hf⟩ := Aa hf
 obtain ⟨s6, r', rfl, a6, hf⟩ := Aa hf
 obtain ⟨s7, r', rfl, a7, hf⟩ := Aa hf
 obtain ⟨s8, r', rfl, a8, hf⟩ := Aa hf
 obtain ⟨s9, r', rfl, a9, hf⟩ := Aa hf
 obtain ⟨sa, r', rfl, aa, hf⟩ := Aa hf
 obtain ⟨sb, r', rfl, ab, hf⟩ := Aa hf
 have r0 := u8r (show IntKind.u8.wrap s0 = s0 from a0)
 have r4 := u32r (show IntKind.u32.wrap s4 = s4 from a4)
 have r6 := u32r (show IntKind.u32.wrap s6 = s6 from a6)
 have r8 := u16r (show IntKind.u16.wrap s8 = s8 from a8)
 have r9 := u16r (show IntKind.u16.wrap s9 = s9 from a9)
 have ra := u16r (show IntKind.u16.wrap sa = sa from aa)
 have rb := u16r (show IntKind.u16.wrap sb = sb from ab)
 have g4 := pfx (n := s5) (show IntKind.u32.wrap s4 = s4 from a4) h4
 have g6 := pfx (n := s7) (show IntKind.u32.wrap s6 = s6 from a6) h6
 have one : ∀ (x y m : Int) (q : List Int), q ∈ [[x, y]] -> 0 <= x -> x <= m -> 0 <= y -> 0 <= q.getD 0 0 /\ q.getD 0 0 <= m /\ 0 <= q.getD 1 0 := fun x y m q hq h1 h2 h3 => by
  obtain rfl := List.mem_singleton.1 hq
  exact ⟨h1, h2, h3⟩
 intro q hq
 match k with
 | 0 =>
   have hq : q ∈ (if s0 < 2 then [[s0, s0]] else [[0, 1]]) := hq
   split at hq
   ·exact one _ _ 1 q hq (by omega) (by omega) (by omega)
   ·exact one _ _ 1 q hq (by omega) (by omega) (by omega)
 | 1 =>
   have hq : q ∈ (if s1 = 1 then [[0, 0]] else if s1 = 6 then [[1, 1]] else if s1 = 17 then [[2, 2]] else [[0, 2]]) := hq
   split at hq
   ·exact one _ _ 2 q hq (by omega) (by omega) (by omega)
   ·split at hq
    ·exact one _ _ 2 q hq (by omega) (by omega) (by omega)
    ·split at hq
     ·exact one _ _ 2 q hq (by omega) (by omega) (by omega)
     ·exact one _ _ 2 q hq (by omega) (by omega) (by omega)
 | 2 => exact one s4 (s4 + psz s5 - 1) 4294967295 q hq (by omega) (by omega) (by omega)
 | 3 => exact one s6 (s6 + psz s7 - 1) 4294967295 q hq (by omega) (by omega) (by omega)
 | 4 => exact one s8 s9 65535 q hq (by omega) (by omega) (by omega)
 | 5 => exact one sa sb 65535 q hq (by omega) (by omega) (by omega)
 | 6 =>
   have hq : q ∈ flL s2 s3 (List.range 64) := hq
   unfold flL at hq
   obtain ⟨v, hv, rfl⟩ := List.mem_map.1 hq
   have := List.mem_range.1 (List.mem_filter.1 hv).1
   exact ⟨by show 0 <= (v : Int); omega, by show (v : Int) <= 63; omega, by show 0 <= (v : Int); omega⟩
def ruls (L : RL) : Prop := L.length <= 256 /\ ∀ r ∈ L, fits ruK r /\ rightP r
theorem ruls.ru {L : RL} (h : ruls L) : ∀ r ∈ L, ruP r /\ r.getD 0 0 <= 2 := fun r hr => ⟨⟨(h.2 r hr).1, (h.2 r hr).2.2.2.1.1, (h.2 r hr).2.2.2.1.2⟩, (h.2 r hr).2.1⟩
def clsF (k : Nat) (L : RL) : RL := mrgF (L.map (spF k)) [] (brdF (lstF k) (L.flatMap (spF k)))
theorem IC (k : Nat) : 0 <= lstF k := by
 match k with
 | 0 | 1 | 2 | 3 | 4 | 5 | 6 => decide
 | n + 7 => exact Int.le_refl _
theorem clsP.facts {k : Nat} (hk : k <= 6) {L R : RL} (hL : ruls L) (h : clsP k L R) :
 R = clsF k L /\ rowsOK clK R /\ fldR (AJ k) (beyF L.length z4) R /\ R.Pairwise (fun p q => p.getD 0 0 < q.getD 0 0) /\ R.length <= 1 + 2 * (64 * 256) /\
 ∀ v, 0 <= v -> v <= lstF k -> belR R v ≠ [] /\ selR R v = setF (L.map (spF k)) v 0 z4 := by
 obtain ⟨h1, v, h2, rfl⟩ := h
 have hb : brdP (lstF k) (L.map (spF k)).flatten v := h2
 have hl : (L.map (spF k)).length = L.length := List.length_map ..
 obtain ⟨a1, a2, a3⟩ := QH hb (IC k) (by rw [hl]; exact hL.1) fun q hq r hr => by
  obtain ⟨s, hs, rfl⟩ := List.mem_map.1 hq
  exact MW k hk (hL.ru s hs).1 (hL.ru s hs).2 r hr
 rw [hl] at a2
 refine ⟨by unfold clsF; rw [<- RR h2], h1, a2, a3, ?_, fun x h0 h1 => TA hb h0 h1⟩
 have := (Ls (L.map (spF k)) _ v rfl h2.1).len
 have h3 := h2.2.2
 have h4 : ∀ l : RL, (∀ r ∈ l, ruP r) -> (l.flatMap (spF k)).length <= 64 * l.length := by
  intro l hl
  induction l with
  | nil => exact Nat.le_refl _
  | cons r l ih => rw [List.flatMap_cons, List.length_append, List.length_cons]; have := GN k r; have := ih fun r hr => hl r (List.mem_cons_of_mem _ hr); omega
 have := h4 L fun r hr => (hL.ru r hr).1
 have := hL.1
 omega
def valF (k : Nat) (s : Int) (f : List Int) : Int :=
 match k with
 | 0 => s
 | 1 => if f.getD 0 0 = 1 then 0 else if f.getD 0 0 = 6 then 1 else 2
 | 2 => f.getD 1 0
 | 3 => f.getD 2 0
 | 4 => f.getD 3 0
 | 5 => f.getD 4 0
 | _ => if f.getD 0 0 = 6 then f.getD 6 0 % 64 else 0
def pktP (s : Int) (f : List Int) : Prop := s <= 1 /\ (f.getD 0 0 = 1 \/ f.getD 0 0 = 6 \/ f.getD 0 0 = 17)
def matB (r : List Int) (s : Int) (f : List Int) : Bool := (List.range 7).all fun k => inS (spF k r) (valF k s f)
def GO (T : List RL) (s : Int) (f : List Int) (i : Nat) : Bool := (List.range 7).all fun k => bitS (selR (T.getD k []) (valF k s f)) i
def allF (n : Nat) (T : List RL) (s : Int) (f : List Int) : List Nat := (List.range n).filter (GO T s f)
def facK : List K := [.i .u8, .i .u32, .i .u32, .i .u16, .i .u16, .i .u8, .i .u8, .i .u8, .i .u8, .i .u32, .i .u32, .i .i64, .i .i64, .i .u8, .i .u32, .i .u32, .i .u16, .i .u16, .i .u8]
def Oi (s : Int) (f : List Int) : Prop := ∀ k, k < 7 -> 0 <= valF k s f /\ valF k s f <= lstF k
def tabs (ys : List Int) : List RL := [dc (env ys 1), dc (env ys 2), dc (env ys 3), dc (env ys 4), dc (env ys 5), dc (env ys 6), dc (env ys 7)]
theorem tabP.at {L : RL} {ys : List Int} (h : tabP L ys) (k : Nat) (hk : k < 7) : clsP k L ((tabs ys).getD k []) := by
 obtain ⟨_, h0, h1, h2, h3, h4, h5, h6⟩ := h
 match k with
 | 0 => exact h0
 | 1 => exact h1
 | 2 => exact h2
 | 3 => exact h3
 | 4 => exact h4
 | 5 => exact h5
 | 6 => exact h6
theorem tabP.all {L : RL} {ys : List Int} (h : tabP L ys) (hL : ruls L) {s : Int} {f : List Int} (hv : Oi s f) : allF L.length (tabs ys) s f = (List.range L.length).filter fun i => matB (L.getD i []) s f := by
 unfold allF
 refine List.filter_congr fun i hi => ?_
 have hi := List.mem_range.1 hi
 unfold GO matB
 rw [Bool.eq_iff_iff, List.all_eq_true, List.all_eq_true]
 refine forall_congr' fun k => forall_congr' fun hk => ?_
 have hk := List.mem_range.1 hk
 obtain ⟨_, _, _, _, _, g⟩ := (h.at k hk).facts (by omega) hL
 rw [(g _ (hv k hk).1 (hv k hk).2).2, (CB (by rw [List.length_map]; exact hL.1) _).2.1]
 have : (L.map (spF k)).getD i [] = spF k (L.getD i []) := by
  rw [List.getD_eq_getElem?_getD, List.getElem?_map, List.getD_eq_getElem?_getD, List.getElem?_eq_getElem hi]; rfl
 rw [this]
theorem tabP.right {L : RL} {ys : List Int} (h : tabP L ys) (hL : ruls L) : tabR ys := by
 have h0 := h.1
 have := hL.1
 refine ⟨by omega, by omega, fun k hk => ?_⟩
 have g := ((h.at k hk).facts (by omega) hL).2.2.1
 rw [h0]
 have e : (tabs ys).getD k [] = dc (env ys (k + 1)) := by
  match k with
  | 0 | 1 | 2 | 3 | 4 | 5 | 6 => rfl
 rw [e] at g
 exact g
def andS (s t : List Int) : List Int := List.zipWith (bitsI .and .u64) s t
theorem QI {x y : Int} (hx : IntKind.u64.wrap x = x) (hy : IntKind.u64.wrap y = y) : IntKind.u64.wrap (bitsI .and .u64 x y) = bitsI .and .u64 x y /\ ∀ i, (bitsI .and .u64 x y).toNat.testBit i = (x.toNat.testBit i && y.toNat.testBit i) := by
 rw [QF hx hy]
 rw [IntKind.wrap_u64] at hx
 have h : x.toNat &&& y.toNat < 2 ^ 64 := Nat.lt_of_le_of_lt Nat.and_le_left (by omega)
 refine ⟨by rw [IntKind.wrap_u64]; omega, fun i => ?_⟩
 rw [Int.toNat_natCast, Nat.testBit_and]
theorem Cn {s t : List Int} (hs : setOK s) (ht : setOK t) : setOK (andS s t) /\ ∀ i, i < 256 -> bitS (andS s t) i = (bitS s i && bitS t i) := by
 have g : ∀ i, i < 4 -> (andS s t).getD i 0 = bitsI .and .u64 (s.getD i 0) (t.getD i 0) := fun i hi => by
  have h1 : i < s.length := by rw [hs.1]; exact hi
  have h2 : i < t.length := by rw [ht.1]; exact hi
  unfold andS
  simp [List.getD, List.getElem?_zipWith, h1, h2]
 have hl : (andS s t).length = 4 := by unfold andS; rw [List.length_zipWith, hs.1, ht.1]; rfl
 refine ⟨⟨hl, fun x hx => ?_⟩, fun i hi => ?_⟩
 ·obtain ⟨i, hi, rfl⟩ := List.getElem_of_mem hx
  have e : (andS s t).getD i 0 = (andS s t)[i] := by simp [List.getD, hi]
  rw [<- e, g i (by omega)]
  exact (QI (hs.at i) (ht.at i)).1
 ·unfold bitS
  rw [g _ (by omega)]
  exact (QI (hs.at _) (ht.at _)).2 _
def GP : List Int := [18446744073709551615, 18446744073709551615, 18446744073709551615, 18446744073709551615]
theorem TC : setOK GP /\ ∀ i, i < 256 -> bitS GP i = true := by
 refine ⟨⟨rfl, fun x hx => ?_⟩, fun i hi => ?_⟩
 ·simp only [GP, List.mem_cons, List.not_mem_nil, or_false] at hx
  rcases hx with rfl | rfl | rfl | rfl <;> rfl
 ·have : GP.getD (i / 64) 0 = 18446744073709551615 := by
   rcases (show i / 64 = 0 \/ i / 64 = 1 \/ i / 64 = 2 \/ i / 64 = 3 by omega) with h | h | h | h <;> rw [h] <;> rfl
  unfold bitS
  rw [this, show (18446744073709551615 : Int).toNat = 2 ^ 64 - 1 from rfl, Nat.testBit_two_pow_sub_one]
  exact decide_eq_true (by omega)
theorem and7 {a b c d e f g : List Int} (ha : setOK a) (hb : setOK b) (hc : setOK c) (hd : setOK d) (he : setOK e) (hf : setOK f) (hg : setOK g) :
 setOK (andS (andS (andS (andS (andS (andS (andS GP a) b) c) d) e) f) g) /\ ∀ i, i < 256 -> bitS (andS (andS (andS (andS (andS (andS (andS GP a) b) c) d) e) f) g) i = (bitS a i && (bitS b i && (bitS c i && (bitS d i && (bitS e i && (bitS f i && bitS g i)))))) := by
 obtain ⟨f1, f2⟩ := TC
 obtain ⟨a1, a2⟩ := Cn f1 ha
 obtain ⟨b1, b2⟩ := Cn a1 hb
 obtain ⟨c1, c2⟩ := Cn b1 hc
 obtain ⟨d1, d2⟩ := Cn c1 hd
 obtain ⟨e1, e2⟩ := Cn d1 he
 obtain ⟨g1, g2⟩ := Cn e1 hf
 obtain ⟨h1, h2⟩ := Cn g1 hg
 refine ⟨h1, fun i hi => ?_⟩
 rw [h2 i hi, g2 i hi, e2 i hi, d2 i hi, c2 i hi, b2 i hi, a2 i hi, f2 i hi]
 simp only [Bool.true_and, Bool.and_assoc]
theorem fldR.ord {m : Int} {B : List Int} {R : RL} (h : fldR m B R) : R.Pairwise fun p q => p.getD 0 0 < q.getD 0 0 := by
 obtain ⟨h1, h2, h3, h4⟩ := h
 have key : ∀ d i, i + d + 1 < R.length -> (R.getD i []).getD 0 0 < (R.getD (i + d + 1) []).getD 0 0 := by
  intro d
  induction d with
  | zero =>
    intro i hi
    have := ((h4 (i + 0 + 1) hi).1 (by omega)).1
    rwa [show i + 0 + 1 - 1 = i by omega] at this
  | succ d ih =>
    intro i hi
    have a := ih i (by omega)
    have b := ((h4 (i + (d + 1) + 1) hi).1 (by omega)).1
    rw [show i + (d + 1) + 1 - 1 = i + d + 1 by omega] at b
    exact Int.lt_trans a b
 refine List.pairwise_iff_getElem.2 fun i j hi hj hij => ?_
 have := key (j - i - 1) i (by omega)
 rw [show i + (j - i - 1) + 1 = j by omega] at this
 simpa [List.getD, hi, hj] using this
def cutP (R : RL) (v n : Int) : Prop := 0 <= n /\ n <= (R.length : Int) /\ (∀ i : Nat, (i : Int) < n -> (R.getD i []).getD 0 0 <= v) /\ ∀ i : Nat, n <= (i : Int) -> i < R.length -> v < (R.getD i []).getD 0 0
theorem cutP.sel {m : Int} {B : List Int} {R : RL} {v n : Int} (h : cutP R v n) (hR : fldR m B R) (hv : 0 <= v) : 1 <= n /\ selR R v = (R.getD (n - 1).toNat []).drop 1 := by
 obtain ⟨h1, h2, h3, h4⟩ := h
 obtain ⟨r1, r2, _, _⟩ := hR
 have hn : 1 <= n := Classical.byContradiction fun c => by
  have := h4 0 (by omega) r1
  omega
 refine ⟨hn, ?_⟩
 have := (Lu (R := R) (v := v) (n := n.toNat) (fun i hi => h3 i (by omega)) (fun i hi hl => h4 i (by omega) hl) (by omega)).2
 rw [if_neg (by omega)] at this
 rw [this, show n.toNat - 1 = (n - 1).toNat by omega]
theorem BK {R : RL} (h : rowsOK clK R) {i : Nat} (hi : i < R.length) : ∃ f0 f1 f2 f3 f4, R.getD i [] = [f0, f1, f2, f3, f4] /\ IntKind.u32.wrap f0 = f0 /\ setOK [f1, f2, f3, f4] := by
 have hm : R.getD i [] ∈ R := CP hi
 obtain ⟨f0, r, e, a0, hr⟩ := Aa (h _ hm)
 obtain ⟨f1, r, rfl, a1, hr⟩ := Aa hr
 obtain ⟨f2, r, rfl, a2, hr⟩ := Aa hr
 obtain ⟨f3, r, rfl, a3, hr⟩ := Aa hr
 obtain ⟨f4, r, rfl, a4, hr⟩ := Aa hr
 obtain rfl := Ba hr
 refine ⟨f0, f1, f2, f3, f4, e, a0, rfl, fun x hx => ?_⟩
 simp only [List.mem_cons, List.not_mem_nil, or_false] at hx
 rcases hx with rfl | rfl | rfl | rfl
 ·exact a1
 ·exact a2
 ·exact a3
 ·exact a4
theorem Uf (T : List RL) (s : Int) (f : List Int) (i : Nat) : GO T s f i = (bitS (selR (T.getD 0 []) (valF 0 s f)) i && (bitS (selR (T.getD 1 []) (valF 1 s f)) i && (bitS (selR (T.getD 2 []) (valF 2 s f)) i && (bitS (selR (T.getD 3 []) (valF 3 s f)) i && (bitS (selR (T.getD 4 []) (valF 4 s f)) i && (bitS (selR (T.getD 5 []) (valF 5 s f)) i && bitS (selR (T.getD 6 []) (valF 6 s f)) i)))))) := by
 show (bitS _ i && (bitS _ i && (bitS _ i && (bitS _ i && (bitS _ i && (bitS _ i && (bitS _ i && true))))))) = _
 rw [Bool.and_true]
def firI : List Nat -> Int
 | [] => -1
 | i :: _ => i
theorem TD {x : Int} (hx : IntKind.u64.wrap x = x) (n : Nat) : (bitsI .and .u64 (IntKind.u64.wrap (x / 2 ^ n)) 1 == 1) = x.toNat.testBit n := by
 have hx' := hx
 rw [IntKind.wrap_u64] at hx
 have e : x / 2 ^ n = ((x.toNat / 2 ^ n : Nat) : Int) := by
  have h1 : x = ((x.toNat : Nat) : Int) := by omega
  have h2 : (2 : Int) ^ n = ((2 ^ n : Nat) : Int) := by rw [Int.natCast_pow]; rfl
  rw [h2, Int.natCast_ediv, <- h1]
 have hl : x.toNat / 2 ^ n <= x.toNat := Nat.div_le_self _ _
 obtain ⟨q, hq⟩ : ∃ q, x.toNat / 2 ^ n = q := ⟨_, rfl⟩
 rw [hq] at hl e
 have w : IntKind.u64.wrap (q : Int) = q := by rw [IntKind.wrap_u64]; omega
 rw [e, w, QF w rfl, Nat.testBit_eq_decide_div_mod_eq, hq, Int.toNat_natCast, show (1 : Int).toNat = 1 from rfl, Nat.and_one_is_mod]
 rw [Bool.eq_iff_iff, beq_iff_eq, decide_eq_true_eq]
 omega
end
end Go.Proofs.YtgpflpbldeflhaaDoor.Ew.Sr
set_option maxHeartbeats 2000000
namespace Go.Proofs.YtgpflpbldeflhaaDoor.Ew.Sr
open Go Go.RowKit
noncomputable section
def fa : Sh := .agg (facK.map .sc)
theorem and32 {x y : Int} (hx : 0 <= x /\ x <= 4294967295) (hy : 0 <= y /\ y <= 4294967295) : bitsI .and .u32 x y = ((x.toNat &&& y.toNat : Nat) : Int) := by
 have h : x.toNat &&& y.toNat < 2 ^ 32 := Nat.lt_of_le_of_lt Nat.and_le_left (by omega)
 have e1 : (BitVec.ofInt 32 x).toNat = x.toNat := by rw [BitVec.toNat_ofInt]; omega
 have e2 : (BitVec.ofInt 32 y).toNat = y.toNat := by rw [BitVec.toNat_ofInt]; omega
 show IntKind.u32.wrap ((BitVec.ofInt 32 x &&& BitVec.ofInt 32 y).toNat : Int) = _
 rw [BitVec.toNat_and, e1, e2, IntKind.wrap_u32]
 omega
theorem mask63 {m : Int} (h : 0 <= m /\ m <= 255) (h2 : bitsI .andNot .u8 m 63 = 0) : m <= 63 := by
 have h3 : (List.range 256).all (fun k => !decide (bitsI .andNot .u8 ((k : Nat) : Int) 63 = 0) || decide (k <= 63)) = true := by kernel_rfl
 have h4 := List.all_eq_true.1 h3 m.toNat (List.mem_range.2 (by omega))
 rw [show ((m.toNat : Nat) : Int) = m by omega, decide_eq_true h2] at h4
 have : m.toNat <= 63 := by simpa using h4
 omega
theorem Ug (mask want v : Int) : inS (flL mask want (List.range 64)) v = true ↔ ∃ u : Nat, u < 64 /\ flW mask want u = true /\ (u : Int) = v := by
 unfold inS
 rw [List.any_eq_true]
 constructor
 ·rintro ⟨r, hr, h⟩
  unfold flL at hr
  obtain ⟨u, hu, rfl⟩ := List.mem_map.1 hr
  obtain ⟨h1, h2⟩ := List.mem_filter.1 hu
  unfold inR at h
  simp only [List.getD_cons_zero, List.getD_cons_succ, Bool.and_eq_true, decide_eq_true_eq] at h
  exact ⟨u, List.mem_range.1 h1, h2, by omega⟩
 ·rintro ⟨u, h1, h2, rfl⟩
  refine ⟨_, (Ue _).2 ⟨List.mem_range.2 h1, h2⟩, ?_⟩
  unfold inR
  simp
theorem BL (a b v : Int) : inS [[a, b]] v = true ↔ a <= v /\ v <= b := by
 unfold inS inR
 simp
end
end Go.Proofs.YtgpflpbldeflhaaDoor.Ew.Sr
set_option maxHeartbeats 8000000
namespace Go.Proofs.YtgpflpbldeflhaaDoor.Ew.Sr
open Go Go.RowKit
noncomputable section
abbrev badP (m : Int) (L : RL) : Prop := L.length = 0 \/ (L.getD 0 []).getD 0 0 ≠ 0 \/ m < (L.getD (L.length - 1) []).getD 0 0
def pre16 (xs : List Int) : Prop := ∀ k : Nat, k < 7 -> rowsOK clK (dc (env xs (k + 1))) /\ ((dc (env xs (k + 1))).length : Int) <= 1000000
def Gt (xs ys : List Int) : Prop := (env ys 0 = 1 /\ tabR xs) \/ (env ys 0 = 0 /\ ¬ tabR xs)
def b16 : Ent := ⟨16, 16, [tab], [], [0, 1, 2, 3, 4, 5, 6], .sc .b, z0, pre16⟩
def c16 : Ctx := ⟨[], [(16, pR, leR), (16, pW, leW)]⟩
def c16n : Ctx := c16.nm
def Gu : List E := [(.lit (.i .u64) 0), (.lit (.i .u64) 0), (.lit (.i .u64) 0), (.lit (.i .u64) 0), (vI 0)]
def Lv : List E := [(.lit .b 0), (.var (.i .u64) 640057702401472), (.var (.i .u64) 640057702401473), (.var (.i .u64) 640057702401474), (.var (.i .u64) 640057702401475), (vX 1), (vX 1), (aI 0 0 [(vX 1)]), (lI 0)]
def Lw : List E := [(.var .b 640058982413249), (.var (.i .u64) 640057702401472), (.var (.i .u64) 640057702401473), (.var (.i .u64) 640057702401474), (.var (.i .u64) 640057702401475), (vX 2), (vX 2), (aI 0 0 [(vX 2)]), (lI 0)]
def Lx : List E := [(.var .b 640058982425025), (.var (.i .u64) 640057702401472), (.var (.i .u64) 640057702401473), (.var (.i .u64) 640057702401474), (.var (.i .u64) 640057702401475), (vX 3), (vX 3), (aI 0 0 [(vX 3)]), (lI 0)]
def Ly : List E := [(.var .b 640058982436801), (.var (.i .u64) 640057702401472), (.var (.i .u64) 640057702401473), (.var (.i .u64) 640057702401474), (.var (.i .u64) 640057702401475), (vX 4), (vX 4), (aI 0 0 [(vX 4)]), (lI 0)]
def Lz : List E := [(.var .b 640058982448577), (.var (.i .u64) 640057702401472), (.var (.i .u64) 640057702401473), (.var (.i .u64) 640057702401474), (.var (.i .u64) 640057702401475), (vX 5), (vX 5), (aI 0 0 [(vX 5)]), (lI 0)]
def LA : List E := [(.var .b 640058982460353), (.var (.i .u64) 640057702401472), (.var (.i .u64) 640057702401473), (.var (.i .u64) 640057702401474), (.var (.i .u64) 640057702401475), (vX 6), (vX 6), (aI 0 0 [(vX 6)]), (lI 0)]
def LB : List E := [(.var .b 640058982472129), (.var (.i .u64) 640057702401472), (.var (.i .u64) 640057702401473), (.var (.i .u64) 640057702401474), (.var (.i .u64) 640057702401475), (vX 7), (vX 7), (aI 0 0 [(vX 7)]), (lI 0)]
def Ca : List (Nat × E) := [(640057702401472, (.app (.i .u64) 100009016 0 Gu)),
 (640057702401473, (.app (.i .u64) 100009016 1 Gu)),
 (640057702401474, (.app (.i .u64) 100009016 2 Gu)),
 (640057702401475, (.app (.i .u64) 100009016 3 Gu)),
 (640058982413248, (aB 100009216 0 Lv)),
 (640058982413249, (aB 100009216 1 Lv)),
 (640058982425024, (aB 100009216 0 Lw)),
 (640058982425025, (aB 100009216 1 Lw)),
 (640058982436800, (aB 100009216 0 Lx)),
 (640058982436801, (aB 100009216 1 Lx)),
 (640058982448576, (aB 100009216 0 Ly)),
 (640058982448577, (aB 100009216 1 Ly)),
 (640058982460352, (aB 100009216 0 Lz)),
 (640058982460353, (aB 100009216 1 Lz)),
 (640058982472128, (aB 100009216 0 LA)),
 (640058982472129, (aB 100009216 1 LA)),
 (640058982483904, (aB 100009216 0 LB)),
 (640058982483905, (aB 100009216 1 LB))]
def ID : E := (.or (.cmp .lss (vI 0) (lI 0)) (.cmp .gtr (vI 0) (lI 256)))
def IE : E := (.or (.cmp .eql (aI 0 0 [(vX 1)]) (lI 0)) (.cmp .lss (lI 0) (aI 0 0 [(vX 1)])))
def EN : E := (.or (.cmp .eql (aI 0 0 [(vX 1)]) (lI 0)) (.cmp .neq (.app (.i .u32) 0 1 [(vX 1), (lI 0), (.lit .x 0)]) (.lit (.i .u32) 0)))
def Gv : E := (.or EN (.cmp .gtr (.app (.i .u32) 0 1 [(vX 1), (.bin .sub .i64 (aI 0 0 [(vX 1)]) (lI 1)), (.lit .x 0)]) (.lit (.i .u32) 1)))
def IG : E := (.not Gv)
def LC : E := (.and IG (.var .b 640058982413248))
def IH : E := (.or (.cmp .eql (aI 0 0 [(vX 2)]) (lI 0)) (.cmp .lss (lI 0) (aI 0 0 [(vX 2)])))
def EO : E := (.or (.cmp .eql (aI 0 0 [(vX 2)]) (lI 0)) (.cmp .neq (.app (.i .u32) 0 1 [(vX 2), (lI 0), (.lit .x 0)]) (.lit (.i .u32) 0)))
def Gw : E := (.or EO (.cmp .gtr (.app (.i .u32) 0 1 [(vX 2), (.bin .sub .i64 (aI 0 0 [(vX 2)]) (lI 1)), (.lit .x 0)]) (.lit (.i .u32) 2)))
def II : E := (.not Gw)
def Jk : E := (.and II (.var .b 640058982425024))
def GQ : E := (.or (.cmp .eql (aI 0 0 [(vX 3)]) (lI 0)) (.cmp .lss (lI 0) (aI 0 0 [(vX 3)])))
def Dw : E := (.or (.cmp .eql (aI 0 0 [(vX 3)]) (lI 0)) (.cmp .neq (.app (.i .u32) 0 1 [(vX 3), (lI 0), (.lit .x 0)]) (.lit (.i .u32) 0)))
def EP : E := (.or Dw (.cmp .gtr (.app (.i .u32) 0 1 [(vX 3), (.bin .sub .i64 (aI 0 0 [(vX 3)]) (lI 1)), (.lit .x 0)]) (.lit (.i .u32) 4294967295)))
def GR : E := (.not EP)
def Jl : E := (.and GR (.var .b 640058982436800))
def GS : E := (.or (.cmp .eql (aI 0 0 [(vX 4)]) (lI 0)) (.cmp .lss (lI 0) (aI 0 0 [(vX 4)])))
def Dx : E := (.or (.cmp .eql (aI 0 0 [(vX 4)]) (lI 0)) (.cmp .neq (.app (.i .u32) 0 1 [(vX 4), (lI 0), (.lit .x 0)]) (.lit (.i .u32) 0)))
def ER : E := (.or Dx (.cmp .gtr (.app (.i .u32) 0 1 [(vX 4), (.bin .sub .i64 (aI 0 0 [(vX 4)]) (lI 1)), (.lit .x 0)]) (.lit (.i .u32) 4294967295)))
def GU : E := (.not ER)
def Jm : E := (.and GU (.var .b 640058982448576))
def GV : E := (.or (.cmp .eql (aI 0 0 [(vX 5)]) (lI 0)) (.cmp .lss (lI 0) (aI 0 0 [(vX 5)])))
def Dy : E := (.or (.cmp .eql (aI 0 0 [(vX 5)]) (lI 0)) (.cmp .neq (.app (.i .u32) 0 1 [(vX 5), (lI 0), (.lit .x 0)]) (.lit (.i .u32) 0)))
def ES : E := (.or Dy (.cmp .gtr (.app (.i .u32) 0 1 [(vX 5), (.bin .sub .i64 (aI 0 0 [(vX 5)]) (lI 1)), (.lit .x 0)]) (.lit (.i .u32) 65535)))
def GW : E := (.not ES)
def Jn : E := (.and GW (.var .b 640058982460352))
def GX : E := (.or (.cmp .eql (aI 0 0 [(vX 6)]) (lI 0)) (.cmp .lss (lI 0) (aI 0 0 [(vX 6)])))
def Dz : E := (.or (.cmp .eql (aI 0 0 [(vX 6)]) (lI 0)) (.cmp .neq (.app (.i .u32) 0 1 [(vX 6), (lI 0), (.lit .x 0)]) (.lit (.i .u32) 0)))
def ET : E := (.or Dz (.cmp .gtr (.app (.i .u32) 0 1 [(vX 6), (.bin .sub .i64 (aI 0 0 [(vX 6)]) (lI 1)), (.lit .x 0)]) (.lit (.i .u32) 65535)))
def GY : E := (.not ET)
def Jo : E := (.and GY (.var .b 640058982472128))
def GZ : E := (.or (.cmp .eql (aI 0 0 [(vX 7)]) (lI 0)) (.cmp .lss (lI 0) (aI 0 0 [(vX 7)])))
def DA : E := (.or (.cmp .eql (aI 0 0 [(vX 7)]) (lI 0)) (.cmp .neq (.app (.i .u32) 0 1 [(vX 7), (lI 0), (.lit .x 0)]) (.lit (.i .u32) 0)))
def EU : E := (.or DA (.cmp .gtr (.app (.i .u32) 0 1 [(vX 7), (.bin .sub .i64 (aI 0 0 [(vX 7)]) (lI 1)), (.lit .x 0)]) (.lit (.i .u32) 63)))
def Jp : E := (.or Gv (.and IG (.not (.var .b 640058982413248))))
def Jq : E := (.or Gw (.and II (.not (.var .b 640058982425024))))
def Jr : E := (.or EP (.and GR (.not (.var .b 640058982436800))))
def Js : E := (.or ER (.and GU (.not (.var .b 640058982448576))))
def Jt : E := (.or ES (.and GW (.not (.var .b 640058982460352))))
def Ju : E := (.or ET (.and GY (.not (.var .b 640058982472128))))
def Jv : E := (.not EU)
def IJ : E := (.or ID (.and (.and (aB 100009016 1000000 [(.lit (.i .u64) 0), (.lit (.i .u64) 0), (.lit (.i .u64) 0), (.lit (.i .u64) 0), (vI 0)]) (dE Ca 0 4)) (.and (.and (.and IE (.and IE (.or EN (.and (.cmp .geq (.bin .sub .i64 (aI 0 0 [(vX 1)]) (lI 1)) (lI 0)) (.cmp .lss (.bin .sub .i64 (aI 0 0 [(vX 1)]) (lI 1)) (aI 0 0 [(vX 1)])))))) (.or Gv (.and (aB 100009216 1000000 [(.lit .b 0), (.var (.i .u64) 640057702401472), (.var (.i .u64) 640057702401473), (.var (.i .u64) 640057702401474), (.var (.i .u64) 640057702401475), (vX 1), (vX 1), (aI 0 0 [(vX 1)]), (lI 0)]) (dE Ca 4 2)))) (.or (.not LC) (.and (.and (.and IH (.and IH (.or EO (.and (.cmp .geq (.bin .sub .i64 (aI 0 0 [(vX 2)]) (lI 1)) (lI 0)) (.cmp .lss (.bin .sub .i64 (aI 0 0 [(vX 2)]) (lI 1)) (aI 0 0 [(vX 2)])))))) (.or Gw (.and (aB 100009216 1000000 [(.var .b 640058982413249), (.var (.i .u64) 640057702401472), (.var (.i .u64) 640057702401473), (.var (.i .u64) 640057702401474), (.var (.i .u64) 640057702401475), (vX 2), (vX 2), (aI 0 0 [(vX 2)]), (lI 0)]) (dE Ca 6 2)))) (.or (.not Jk) (.and (.and (.and GQ (.and GQ (.or Dw (.and (.cmp .geq (.bin .sub .i64 (aI 0 0 [(vX 3)]) (lI 1)) (lI 0)) (.cmp .lss (.bin .sub .i64 (aI 0 0 [(vX 3)]) (lI 1)) (aI 0 0 [(vX 3)])))))) (.or EP (.and (aB 100009216 1000000 [(.var .b 640058982425025), (.var (.i .u64) 640057702401472), (.var (.i .u64) 640057702401473), (.var (.i .u64) 640057702401474), (.var (.i .u64) 640057702401475), (vX 3), (vX 3), (aI 0 0 [(vX 3)]), (lI 0)]) (dE Ca 8 2)))) (.or (.not Jl) (.and (.and (.and GS (.and GS (.or Dx (.and (.cmp .geq (.bin .sub .i64 (aI 0 0 [(vX 4)]) (lI 1)) (lI 0)) (.cmp .lss (.bin .sub .i64 (aI 0 0 [(vX 4)]) (lI 1)) (aI 0 0 [(vX 4)])))))) (.or ER (.and (aB 100009216 1000000 [(.var .b 640058982436801), (.var (.i .u64) 640057702401472), (.var (.i .u64) 640057702401473), (.var (.i .u64) 640057702401474), (.var (.i .u64) 640057702401475), (vX 4), (vX 4), (aI 0 0 [(vX 4)]), (lI 0)]) (dE Ca 10 2)))) (.or (.not Jm) (.and (.and (.and GV (.and GV (.or Dy (.and (.cmp .geq (.bin .sub .i64 (aI 0 0 [(vX 5)]) (lI 1)) (lI 0)) (.cmp .lss (.bin .sub .i64 (aI 0 0 [(vX 5)]) (lI 1)) (aI 0 0 [(vX 5)])))))) (.or ES (.and (aB 100009216 1000000 [(.var .b 640058982448577), (.var (.i .u64) 640057702401472), (.var (.i .u64) 640057702401473), (.var (.i .u64) 640057702401474), (.var (.i .u64) 640057702401475), (vX 5), (vX 5), (aI 0 0 [(vX 5)]), (lI 0)]) (dE Ca 12 2)))) (.or (.not Jn) (.and (.and (.and GX (.and GX (.or Dz (.and (.cmp .geq (.bin .sub .i64 (aI 0 0 [(vX 6)]) (lI 1)) (lI 0)) (.cmp .lss (.bin .sub .i64 (aI 0 0 [(vX 6)]) (lI 1)) (aI 0 0 [(vX 6)])))))) (.or ET (.and (aB 100009216 1000000 [(.var .b 640058982460353), (.var (.i .u64) 640057702401472), (.var (.i .u64) 640057702401473), (.var (.i .u64) 640057702401474), (.var (.i .u64) 640057702401475), (vX 6), (vX 6), (aI 0 0 [(vX 6)]), (lI 0)]) (dE Ca 14 2)))) (.or (.not Jo) (.and (.and GZ (.and GZ (.or DA (.and (.cmp .geq (.bin .sub .i64 (aI 0 0 [(vX 7)]) (lI 1)) (lI 0)) (.cmp .lss (.bin .sub .i64 (aI 0 0 [(vX 7)]) (lI 1)) (aI 0 0 [(vX 7)])))))) (.or EU (.and (aB 100009216 1000000 [(.var .b 640058982472129), (.var (.i .u64) 640057702401472), (.var (.i .u64) 640057702401473), (.var (.i .u64) 640057702401474), (.var (.i .u64) 640057702401475), (vX 7), (vX 7), (aI 0 0 [(vX 7)]), (lI 0)]) (dE Ca 16 2))))))))))))))))))
def IK : List E := [(.and (.not ID) (.or (.not (.or Jp (.and LC (.or Jq (.and Jk (.or Jr (.and Jl (.or Js (.and Jm (.or Jt (.and Jn (.or Ju (.and Jo (.or EU (.and Jv (.not (.var .b 640058982483904))))))))))))))))) (.ite Jp (.and IG (.var .b 640058982413249)) (.ite Jq (.and II (.var .b 640058982425025)) (.ite Jr (.and GR (.var .b 640058982436801)) (.ite Js (.and GU (.var .b 640058982448577)) (.ite Jt (.and GW (.var .b 640058982460353)) (.ite Ju (.and GY (.var .b 640058982472129)) (.and Jv (.var .b 640058982483905))))))))))]
def e16 : Ent := b16.fw (fnR c16n.l.F b16.np IJ IK Gt)
theorem ev_16 : evE Tryd.prog G0 (BO c16n.fs) (ltOf c16n.ls) 40 10 e16 = some (IJ, IK) := by kernel_rfl
theorem CR {l : Int} (h : rowsOK clK (dc l)) (i : Nat) : IntKind.u32.wrap (((dc l).getD i []).getD 0 0) = ((dc l).getD i []).getD 0 0 := by
 by_cases c : i < (dc l).length
 ·obtain ⟨r, er, hr, _, _⟩ := Az (i := (i : Int)) h (by omega) (by omega)
  obtain ⟨f0, r1, rfl, a0, hr⟩ := Aa hr
  simp only [Ad] at a0
  rw [show (i : Int).toNat = i by omega] at er
  rw [er]; exact a0
 ·have e : (dc l).getD i [] = [] := by rw [List.getD_eq_getElem?_getD, List.getElem?_eq_none (by omega)]; rfl
  rw [e]; rfl
theorem badB {m : Int} {L : RL} : ((((L.length : Int) == 0) || (((L.getD 0 []).getD 0 0) != 0)) || decide (((L.getD ((L.length : Int) - 1).toNat []).getD 0 0) > m)) = decide (badP m L) := by
 rw [show ((L.length : Int) - 1).toNat = L.length - 1 by omega, Bool.eq_iff_iff]
 simp only [Bool.or_eq_true, beq_iff_eq, bne_iff_ne, decide_eq_true_eq, ne_eq]
 unfold badP
 constructor
 ·rintro ((h | h) | h)
  ·exact Or.inl (by omega)
  ·exact Or.inr (Or.inl h)
  ·exact Or.inr (Or.inr h)
 ·rintro (h | h | h)
  ·exact Or.inl (Or.inl (by omega))
  ·exact Or.inl (Or.inr h)
  ·exact Or.inr h
theorem CS {m : Int} {B : List Int} {L : RL} {v w : Int} (h : (v = 1 /\ ∀ j : Nat, 0 <= j -> j < L.length -> rowG L B j) \/ (v = 0 /\ w = 0 /\ ∃ j : Nat, j < L.length /\ ¬ rowG L B j)) :
 (badP m L /\ ¬ fldR m B L) \/ (¬ badP m L /\ v = 1 /\ fldR m B L) \/ (¬ badP m L /\ v = 0 /\ w = 0 /\ ¬ fldR m B L) := by
 by_cases c : badP m L
 ·refine Or.inl ⟨c, fun k => ?_⟩
  obtain ⟨k1, k2, k3, _⟩ := k
  rcases c with c | c | c
  ·omega
  ·exact c k2
  ·omega
 ·rcases h with ⟨h1, h2⟩ | ⟨h1, h2, j, h3, h4⟩
  ·refine Or.inr (Or.inl ⟨c, h1, ?_, ?_, ?_, fun j hj => h2 j (Nat.zero_le _) hj⟩)
   ·exact Nat.pos_of_ne_zero fun k => c (Or.inl k)
   ·exact Classical.byContradiction fun k => c (Or.inr (Or.inl k))
   ·exact Classical.byContradiction fun k => c (Or.inr (Or.inr (Int.not_le.1 k)))
  ·exact Or.inr (Or.inr ⟨c, h1, h2, fun k => h4 (k.2.2.2 j h3)⟩)
theorem c16ok : c16.OK Tryd.prog G0 := Ctx.OK.addL (c := ⟨[], [(16, pW, leW)]⟩) (Ctx.OK.addL (c := ⟨[], []⟩) Ctx.OK.nil okW.1 rfl) okR.1 rfl
theorem ok16 : EntryOK Tryd.prog G0 e16 /\ PostOK e16 Gt := by
 refine c16ok.nm.entryH mixed ev_16 (by kernel_rfl) _ rfl fun xs hf hp => ?_
 obtain ⟨l, hl, hF⟩ := Ix (l0 := c16n.l)
 show ∃ ρ : Nat -> Int, _ /\ IJ.tt c16n.l.F ρ = true /\ Gt xs (IK.map (E.den c16n.l.F ρ))
 rw [hl]
 have F9016 := FC (k := 100009016) rfl (hF leR.nm.ent (by rfl) (by decide))
 have F9216 := FC (k := 100009216) rfl (hF leW.nm.ent (by rfl) (by decide))
 replace hf : fits [kJ, .x, .x, .x, .x, .x, .x, .x] xs := hf
 obtain ⟨n, hn, l0, hl0, l1, hl1, l2, hl2, l3, hl3, l4, hl4, l5, hl5, l6, hl6, rfl⟩ := AQ hf
 simp only [Ad] at hn
 obtain ⟨ρ, hρ, hd⟩ := solve (F := l.F) 8 Ca (by kernel_rfl) [n, l0, l1, l2, l3, l4, l5, l6]
 have hDf := dE_tt (by kernel_rfl) hd
 refine ⟨ρ, hρ, ?_⟩
 have hρe := Iy hρ (Nat.le_refl _)
 simp only [eqL, Nat.reduceAdd] at hρe
 obtain ⟨⟨v1, hv1, hd1, hn1⟩, ⟨v2, hv2, hd2, hn2⟩⟩ := Jj (nmd hd 0 rfl) (nmd hd 1 rfl)
 obtain ⟨⟨v3, hv3, hd3, hn3⟩, ⟨v4, hv4, hd4, hn4⟩⟩ := Jj (nmd hd 2 rfl) (nmd hd 3 rfl)
 obtain ⟨⟨v5, hv5, hd5, hn5⟩, ⟨v6, hv6, hd6, hn6⟩⟩ := Jj (nmd hd 4 rfl) (nmd hd 5 rfl)
 obtain ⟨⟨v7, hv7, hd7, hn7⟩, ⟨v8, hv8, hd8, hn8⟩⟩ := Jj (nmd hd 6 rfl) (nmd hd 7 rfl)
 obtain ⟨⟨v9, hv9, hd9, hn9⟩, ⟨v10, hv10, hd10, hn10⟩⟩ := Jj (nmd hd 8 rfl) (nmd hd 9 rfl)
 obtain ⟨⟨v11, hv11, hd11, hn11⟩, ⟨v12, hv12, hd12, hn12⟩⟩ := Jj (nmd hd 10 rfl) (nmd hd 11 rfl)
 obtain ⟨⟨v13, hv13, hd13, hn13⟩, ⟨v14, hv14, hd14, hn14⟩⟩ := Jj (nmd hd 12 rfl) (nmd hd 13 rfl)
 obtain ⟨⟨v15, hv15, hd15, hn15⟩, ⟨v16, hv16, hd16, hn16⟩⟩ := Jj (nmd hd 14 rfl) (nmd hd 15 rfl)
 obtain ⟨⟨v17, hv17, hd17, hn17⟩, ⟨v18, hv18, hd18, hn18⟩⟩ := Jj (nmd hd 16 rfl) (nmd hd 17 rfl)
 simp only [Ad] at hn1 hn2 hn3 hn4
 have hSS := Jj (Jj (Jj (Jj (Jj F9016 F9216) (Jj hρe (Jj hn hv1))) (Jj (Jj hn1 hv2) (Jj hn2 (Jj hv3 hn3)))) (Jj (Jj (Jj hv4 hn4) (Jj hv5 (Jj hn5 hv6))) (Jj (Jj hn6 hv7) (Jj hn7 (Jj hv8 hn8))))) (Jj (Jj (Jj (Jj hv9 hn9) (Jj hv10 (Jj hn10 hv11))) (Jj (Jj hn11 hv12) (Jj hn12 (Jj hv13 hn13)))) (Jj (Jj (Jj hv14 hn14) (Jj hv15 (Jj hn15 hv16))) (Jj (Jj hn16 (Jj hv17 hn17)) (Jj hv18 (Jj hn18 hDf)))))
 simp (disch := omega) only [Ad, Gu, Lv, Lw, Lx, Ly, Lz, LA, LB, Ent.nm_fn, hSS, ewZ, reduceCtorEq, seval] at hd1 hd2 hd3 hd4 hd5 hd6 hd7 hd8 hd9 hd10 hd11 hd12 hd13 hd14 hd15 hd16 hd17 hd18
 have u0 : IntKind.i64.wrap 0 = 0 := rfl
 have u1 : IntKind.i64.wrap 1 = 1 := rfl
 have u256 : IntKind.i64.wrap 256 = 256 := rfl
 have t0 : IntKind.u32.wrap 0 = 0 := rfl
 have t1 : IntKind.u32.wrap 1 = 1 := rfl
 have t2 : IntKind.u32.wrap 2 = 2 := rfl
 have t3 : IntKind.u32.wrap 4294967295 = 4294967295 := rfl
 have t4 : IntKind.u32.wrap 65535 = 65535 := rfl
 have t5 : IntKind.u32.wrap 63 = 63 := rfl
 have hX : E.tt l.F ρ ID = decide (n < 0 \/ n > 256) := by
  simp (disch := omega) only [ID, ewY, ewR, seval, hSS, u0, u256]
  exact (Bool.decide_or _ _).symm
 have p0 : rowsOK clK (dc l0) /\ ((dc l0).length : Int) <= 1000000 := hp 0 (by omega)
 have wl0 : IntKind.i64.wrap ((dc l0).length : Int) = (dc l0).length := i64w (by omega) (by have := p0.2; omega)
 have wm0 : IntKind.i64.wrap ((dc l0).length - 1 : Int) = (dc l0).length - 1 := i64w (by omega) (by have := p0.2; omega)
 have hw0 := CR p0.1
 have hB0 : E.tt l.F ρ Gv = decide (badP 1 (dc l0)) := by
  rw [<- badB]
  simp (disch := omega) only [Gv, EN, ewY, ewR, seval, hSS, u0, u1, t0, t1, t2, t3, t4, t5, wl0, wm0, hw0]
 have p1 : rowsOK clK (dc l1) /\ ((dc l1).length : Int) <= 1000000 := hp 1 (by omega)
 have wl1 : IntKind.i64.wrap ((dc l1).length : Int) = (dc l1).length := i64w (by omega) (by have := p1.2; omega)
 have wm1 : IntKind.i64.wrap ((dc l1).length - 1 : Int) = (dc l1).length - 1 := i64w (by omega) (by have := p1.2; omega)
 have hw1 := CR p1.1
 have hB1 : E.tt l.F ρ Gw = decide (badP 2 (dc l1)) := by
  rw [<- badB]
  simp (disch := omega) only [Gw, EO, ewY, ewR, seval, hSS, u0, u1, t0, t1, t2, t3, t4, t5, wl1, wm1, hw1]
 have p2 : rowsOK clK (dc l2) /\ ((dc l2).length : Int) <= 1000000 := hp 2 (by omega)
 have wl2 : IntKind.i64.wrap ((dc l2).length : Int) = (dc l2).length := i64w (by omega) (by have := p2.2; omega)
 have wm2 : IntKind.i64.wrap ((dc l2).length - 1 : Int) = (dc l2).length - 1 := i64w (by omega) (by have := p2.2; omega)
 have hw2 := CR p2.1
 have hB2 : E.tt l.F ρ EP = decide (badP 4294967295 (dc l2)) := by
  rw [<- badB]
  simp (disch := omega) only [EP, Dw, ewY, ewR, seval, hSS, u0, u1, t0, t1, t2, t3, t4, t5, wl2, wm2, hw2]
 have p3 : rowsOK clK (dc l3) /\ ((dc l3).length : Int) <= 1000000 := hp 3 (by omega)
 have wl3 : IntKind.i64.wrap ((dc l3).length : Int) = (dc l3).length := i64w (by omega) (by have := p3.2; omega)
 have wm3 : IntKind.i64.wrap ((dc l3).length - 1 : Int) = (dc l3).length - 1 := i64w (by omega) (by have := p3.2; omega)
 have hw3 := CR p3.1
 have hB3 : E.tt l.F ρ ER = decide (badP 4294967295 (dc l3)) := by
  rw [<- badB]
  simp (disch := omega) only [ER, Dx, ewY, ewR, seval, hSS, u0, u1, t0, t1, t2, t3, t4, t5, wl3, wm3, hw3]
 have p4 : rowsOK clK (dc l4) /\ ((dc l4).length : Int) <= 1000000 := hp 4 (by omega)
 have wl4 : IntKind.i64.wrap ((dc l4).length : Int) = (dc l4).length := i64w (by omega) (by have := p4.2; omega)
 have wm4 : IntKind.i64.wrap ((dc l4).length - 1 : Int) = (dc l4).length - 1 := i64w (by omega) (by have := p4.2; omega)
 have hw4 := CR p4.1
 have hB4 : E.tt l.F ρ ES = decide (badP 65535 (dc l4)) := by
  rw [<- badB]
  simp (disch := omega) only [ES, Dy, ewY, ewR, seval, hSS, u0, u1, t0, t1, t2, t3, t4, t5, wl4, wm4, hw4]
 have p5 : rowsOK clK (dc l5) /\ ((dc l5).length : Int) <= 1000000 := hp 5 (by omega)
 have wl5 : IntKind.i64.wrap ((dc l5).length : Int) = (dc l5).length := i64w (by omega) (by have := p5.2; omega)
 have wm5 : IntKind.i64.wrap ((dc l5).length - 1 : Int) = (dc l5).length - 1 := i64w (by omega) (by have := p5.2; omega)
 have hw5 := CR p5.1
 have hB5 : E.tt l.F ρ ET = decide (badP 65535 (dc l5)) := by
  rw [<- badB]
  simp (disch := omega) only [ET, Dz, ewY, ewR, seval, hSS, u0, u1, t0, t1, t2, t3, t4, t5, wl5, wm5, hw5]
 have p6 : rowsOK clK (dc l6) /\ ((dc l6).length : Int) <= 1000000 := hp 6 (by omega)
 have wl6 : IntKind.i64.wrap ((dc l6).length : Int) = (dc l6).length := i64w (by omega) (by have := p6.2; omega)
 have wm6 : IntKind.i64.wrap ((dc l6).length - 1 : Int) = (dc l6).length - 1 := i64w (by omega) (by have := p6.2; omega)
 have hw6 := CR p6.1
 have hB6 : E.tt l.F ρ EU = decide (badP 63 (dc l6)) := by
  rw [<- badB]
  simp (disch := omega) only [EU, DA, ewY, ewR, seval, hSS, u0, u1, t0, t1, t2, t3, t4, t5, wl6, wm6, hw6]
 by_cases h0 : n < 0 \/ n > 256
 ·refine ⟨?_, ?_⟩
  ·unfold IJ
   rw [BQ, hX, decide_eq_true h0]; rfl
  ·unfold IK
   refine Or.inr ⟨?_, fun k => ?_⟩
   ·show E.den l.F ρ _ = 0
    rw [Jc, A6, hX, decide_eq_true h0]; rfl
   ·obtain ⟨k1, k2, _⟩ := k
    have k1 : 0 <= n := k1
    have k2 : n <= 256 := k2
    omega
 have yR : leR.ent.pre [0, 0, 0, 0, n] := ⟨by show 0 <= n; omega, by show n <= 256; omega⟩
 have zR := (PostOK.use (os := [(.i .u64), (.i .u64), (.i .u64), (.i .u64)]) (vs := [v1, v2, v3, v4]) okR.2 rfl rfl ⟨hd1, hd2, hd3, hd4, trivial⟩) ⟨rfl, rfl, rfl, rfl, hn, trivial⟩ yR
 replace zR : [v1, v2, v3, v4] = beyF n.toNat [0, 0, 0, 0] := zR
 have y0 : leW.ent.pre [0, v1, v2, v3, v4, l0, l0, ((dc l0).length : Int), 0] := ⟨rfl, p0.1, rfl, Int.le_refl _, by show (0 : Int) <= ((dc l0).length : Int); omega, p0.2⟩
 simp only [wl0] at hd5 hd6
 have z0 := (PostOK.use (os := [.b, .b]) (vs := [v5, v6]) okW.2 rfl rfl ⟨hd5, hd6, trivial⟩) ⟨rfl, hn1, hn2, hn3, hn4, rfl, rfl, wl0, rfl, trivial⟩ y0
 replace z0 := CS (m := 1) (B := [v1, v2, v3, v4]) (L := dc l0) (v := v5) (w := v6) z0
 have y1 : leW.ent.pre [v6, v1, v2, v3, v4, l1, l1, ((dc l1).length : Int), 0] := ⟨rfl, p1.1, rfl, Int.le_refl _, by show (0 : Int) <= ((dc l1).length : Int); omega, p1.2⟩
 simp only [wl1] at hd7 hd8
 have z1 := (PostOK.use (os := [.b, .b]) (vs := [v7, v8]) okW.2 rfl rfl ⟨hd7, hd8, trivial⟩) ⟨hn6, hn1, hn2, hn3, hn4, rfl, rfl, wl1, rfl, trivial⟩ y1
 replace z1 := CS (m := 2) (B := [v1, v2, v3, v4]) (L := dc l1) (v := v7) (w := v8) z1
 have y2 : leW.ent.pre [v8, v1, v2, v3, v4, l2, l2, ((dc l2).length : Int), 0] := ⟨rfl, p2.1, rfl, Int.le_refl _, by show (0 : Int) <= ((dc l2).length : Int); omega, p2.2⟩
 simp only [wl2] at hd9 hd10
 have z2 := (PostOK.use (os := [.b, .b]) (vs := [v9, v10]) okW.2 rfl rfl ⟨hd9, hd10, trivial⟩) ⟨hn8, hn1, hn2, hn3, hn4, rfl, rfl, wl2, rfl, trivial⟩ y2
 replace z2 := CS (m := 4294967295) (B := [v1, v2, v3, v4]) (L := dc l2) (v := v9) (w := v10) z2
 have y3 : leW.ent.pre [v10, v1, v2, v3, v4, l3, l3, ((dc l3).length : Int), 0] := ⟨rfl, p3.1, rfl, Int.le_refl _, by show (0 : Int) <= ((dc l3).length : Int); omega, p3.2⟩
 simp only [wl3] at hd11 hd12
 have z3 := (PostOK.use (os := [.b, .b]) (vs := [v11, v12]) okW.2 rfl rfl ⟨hd11, hd12, trivial⟩) ⟨hn10, hn1, hn2, hn3, hn4, rfl, rfl, wl3, rfl, trivial⟩ y3
 replace z3 := CS (m := 4294967295) (B := [v1, v2, v3, v4]) (L := dc l3) (v := v11) (w := v12) z3
 have y4 : leW.ent.pre [v12, v1, v2, v3, v4, l4, l4, ((dc l4).length : Int), 0] := ⟨rfl, p4.1, rfl, Int.le_refl _, by show (0 : Int) <= ((dc l4).length : Int); omega, p4.2⟩
 simp only [wl4] at hd13 hd14
 have z4 := (PostOK.use (os := [.b, .b]) (vs := [v13, v14]) okW.2 rfl rfl ⟨hd13, hd14, trivial⟩) ⟨hn12, hn1, hn2, hn3, hn4, rfl, rfl, wl4, rfl, trivial⟩ y4
 replace z4 := CS (m := 65535) (B := [v1, v2, v3, v4]) (L := dc l4) (v := v13) (w := v14) z4
 have y5 : leW.ent.pre [v14, v1, v2, v3, v4, l5, l5, ((dc l5).length : Int), 0] := ⟨rfl, p5.1, rfl, Int.le_refl _, by show (0 : Int) <= ((dc l5).length : Int); omega, p5.2⟩
 simp only [wl5] at hd15 hd16
 have z5 := (PostOK.use (os := [.b, .b]) (vs := [v15, v16]) okW.2 rfl rfl ⟨hd15, hd16, trivial⟩) ⟨hn14, hn1, hn2, hn3, hn4, rfl, rfl, wl5, rfl, trivial⟩ y5
 replace z5 := CS (m := 65535) (B := [v1, v2, v3, v4]) (L := dc l5) (v := v15) (w := v16) z5
 have y6 : leW.ent.pre [v16, v1, v2, v3, v4, l6, l6, ((dc l6).length : Int), 0] := ⟨rfl, p6.1, rfl, Int.le_refl _, by show (0 : Int) <= ((dc l6).length : Int); omega, p6.2⟩
 simp only [wl6] at hd17 hd18
 have z6 := (PostOK.use (os := [.b, .b]) (vs := [v17, v18]) okW.2 rfl rfl ⟨hd17, hd18, trivial⟩) ⟨hn16, hn1, hn2, hn3, hn4, rfl, rfl, wl6, rfl, trivial⟩ y6
 replace z6 := CS (m := 63) (B := [v1, v2, v3, v4]) (L := dc l6) (v := v17) (w := v18) z6
 have hP : E.tt l.F ρ (.app .b 100009016 1000000 [.lit (.i .u64) 0, .lit (.i .u64) 0, .lit (.i .u64) 0, .lit (.i .u64) 0, .var kJ 0]) = true := by
  simp (disch := omega) only [ewZ, reduceCtorEq, seval, hSS]
  exact yR
 have hO0 : E.tt l.F ρ IE = true := by
  simp (disch := omega) only [IE, ewZ, reduceCtorEq, seval, hSS, wl0]
  omega
 have hI0 : (E.tt l.F ρ EN || E.tt l.F ρ (.cmp .geq (.bin .sub .i64 (E.app kJ 0 0 [E.var .x 1]) (.lit kJ 1)) (.lit kJ 0)) && E.tt l.F ρ (.cmp .lss (.bin .sub .i64 (E.app kJ 0 0 [E.var .x 1]) (.lit kJ 1)) (E.app kJ 0 0 [E.var .x 1]))) = true := by
  by_cases c : ((dc l0).length : Int) = 0
  ·have e : E.tt l.F ρ EN = true := by
    simp (disch := omega) only [EN, ewZ, reduceCtorEq, seval, hSS, wl0, c]
   rw [e]; rfl
  ·have e1 : E.tt l.F ρ (.cmp .geq (.bin .sub .i64 (E.app kJ 0 0 [E.var .x 1]) (.lit kJ 1)) (.lit kJ 0)) = true := by
    simp (disch := omega) only [ewZ, reduceCtorEq, seval, hSS, wl0, wm0]
    omega
   have e2 : E.tt l.F ρ (.cmp .lss (.bin .sub .i64 (E.app kJ 0 0 [E.var .x 1]) (.lit kJ 1)) (E.app kJ 0 0 [E.var .x 1])) = true := by
    simp (disch := omega) only [ewZ, reduceCtorEq, seval, hSS, wl0, wm0]
    omega
   rw [e1, e2]; simp
 have hP0 : E.tt l.F ρ (.app .b 100009216 1000000 [.lit .b 0, .var (.i .u64) 640057702401472, .var (.i .u64) 640057702401473, .var (.i .u64) 640057702401474, .var (.i .u64) 640057702401475, .var .x 1, .var .x 1, (E.app kJ 0 0 [E.var .x 1]), .lit kJ 0]) = true := by
  simp (disch := omega) only [ewZ, reduceCtorEq, seval, hSS, wl0]
  exact y0
 have hv0_ : E.tt l.F ρ (.var .b 640058982413248) = i2b v5 := by rw [Bi, hv5]
 have hw0_ : E.tt l.F ρ (.var .b 640058982413249) = i2b v6 := by rw [Bi, hv6]
 have hN0 : E.tt l.F ρ IG = !decide (badP 1 (dc l0)) := by rw [<- hB0]; exact A6 _ _ _
 have hS0 : E.tt l.F ρ LC = (!decide (badP 1 (dc l0)) && i2b v5) := by rw [<- hN0, <- hv0_]; exact AP _ _ _ _
 have hF0 : E.tt l.F ρ Jp = (decide (badP 1 (dc l0)) || (!decide (badP 1 (dc l0)) && !i2b v5)) := by rw [<- hN0, <- hB0, <- hv0_, <- A6, <- AP]; exact BQ _ _ _ _
 have hO1 : E.tt l.F ρ IH = true := by
  simp (disch := omega) only [IH, ewZ, reduceCtorEq, seval, hSS, wl1]
  omega
 have hI1 : (E.tt l.F ρ EO || E.tt l.F ρ (.cmp .geq (.bin .sub .i64 (E.app kJ 0 0 [E.var .x 2]) (.lit kJ 1)) (.lit kJ 0)) && E.tt l.F ρ (.cmp .lss (.bin .sub .i64 (E.app kJ 0 0 [E.var .x 2]) (.lit kJ 1)) (E.app kJ 0 0 [E.var .x 2]))) = true := by
  by_cases c : ((dc l1).length : Int) = 0
  ·have e : E.tt l.F ρ EO = true := by
    simp (disch := omega) only [EO, ewZ, reduceCtorEq, seval, hSS, wl1, c]
   rw [e]; rfl
  ·have e1 : E.tt l.F ρ (.cmp .geq (.bin .sub .i64 (E.app kJ 0 0 [E.var .x 2]) (.lit kJ 1)) (.lit kJ 0)) = true := by
    simp (disch := omega) only [ewZ, reduceCtorEq, seval, hSS, wl1, wm1]
    omega
   have e2 : E.tt l.F ρ (.cmp .lss (.bin .sub .i64 (E.app kJ 0 0 [E.var .x 2]) (.lit kJ 1)) (E.app kJ 0 0 [E.var .x 2])) = true := by
    simp (disch := omega) only [ewZ, reduceCtorEq, seval, hSS, wl1, wm1]
    omega
   rw [e1, e2]; simp
 have hP1 : E.tt l.F ρ (.app .b 100009216 1000000 [.var .b 640058982413249, .var (.i .u64) 640057702401472, .var (.i .u64) 640057702401473, .var (.i .u64) 640057702401474, .var (.i .u64) 640057702401475, .var .x 2, .var .x 2, (E.app kJ 0 0 [E.var .x 2]), .lit kJ 0]) = true := by
  simp (disch := omega) only [ewZ, reduceCtorEq, seval, hSS, wl1]
  exact y1
 have hv1_ : E.tt l.F ρ (.var .b 640058982425024) = i2b v7 := by rw [Bi, hv7]
 have hw1_ : E.tt l.F ρ (.var .b 640058982425025) = i2b v8 := by rw [Bi, hv8]
 have hN1 : E.tt l.F ρ II = !decide (badP 2 (dc l1)) := by rw [<- hB1]; exact A6 _ _ _
 have hS1 : E.tt l.F ρ Jk = (!decide (badP 2 (dc l1)) && i2b v7) := by rw [<- hN1, <- hv1_]; exact AP _ _ _ _
 have hF1 : E.tt l.F ρ Jq = (decide (badP 2 (dc l1)) || (!decide (badP 2 (dc l1)) && !i2b v7)) := by rw [<- hN1, <- hB1, <- hv1_, <- A6, <- AP]; exact BQ _ _ _ _
 have hO2 : E.tt l.F ρ GQ = true := by
  simp (disch := omega) only [GQ, ewZ, reduceCtorEq, seval, hSS, wl2]
  omega
 have hI2 : (E.tt l.F ρ Dw || E.tt l.F ρ (.cmp .geq (.bin .sub .i64 (E.app kJ 0 0 [E.var .x 3]) (.lit kJ 1)) (.lit kJ 0)) && E.tt l.F ρ (.cmp .lss (.bin .sub .i64 (E.app kJ 0 0 [E.var .x 3]) (.lit kJ 1)) (E.app kJ 0 0 [E.var .x 3]))) = true := by
  by_cases c : ((dc l2).length : Int) = 0
  ·have e : E.tt l.F ρ Dw = true := by
    simp (disch := omega) only [Dw, ewZ, reduceCtorEq, seval, hSS, wl2, c]
   rw [e]; rfl
  ·have e1 : E.tt l.F ρ (.cmp .geq (.bin .sub .i64 (E.app kJ 0 0 [E.var .x 3]) (.lit kJ 1)) (.lit kJ 0)) = true := by
    simp (disch := omega) only [ewZ, reduceCtorEq, seval, hSS, wl2, wm2]
    omega
   have e2 : E.tt l.F ρ (.cmp .lss (.bin .sub .i64 (E.app kJ 0 0 [E.var .x 3]) (.lit kJ 1)) (E.app kJ 0 0 [E.var .x 3])) = true := by
    simp (disch := omega) only [ewZ, reduceCtorEq, seval, hSS, wl2, wm2]
    omega
   rw [e1, e2]; simp
 have hP2 : E.tt l.F ρ (.app .b 100009216 1000000 [.var .b 640058982425025, .var (.i .u64) 640057702401472, .var (.i .u64) 640057702401473, .var (.i .u64) 640057702401474, .var (.i .u64) 640057702401475, .var .x 3, .var .x 3, (E.app kJ 0 0 [E.var .x 3]), .lit kJ 0]) = true := by
  simp (disch := omega) only [ewZ, reduceCtorEq, seval, hSS, wl2]
  exact y2
 have hv2_ : E.tt l.F ρ (.var .b 640058982436800) = i2b v9 := by rw [Bi, hv9]
 have hw2_ : E.tt l.F ρ (.var .b 640058982436801) = i2b v10 := by rw [Bi, hv10]
 have hN2 : E.tt l.F ρ GR = !decide (badP 4294967295 (dc l2)) := by rw [<- hB2]; exact A6 _ _ _
 have hS2 : E.tt l.F ρ Jl = (!decide (badP 4294967295 (dc l2)) && i2b v9) := by rw [<- hN2, <- hv2_]; exact AP _ _ _ _
 have hF2 : E.tt l.F ρ Jr = (decide (badP 4294967295 (dc l2)) || (!decide (badP 4294967295 (dc l2)) && !i2b v9)) := by rw [<- hN2, <- hB2, <- hv2_, <- A6, <- AP]; exact BQ _ _ _ _
 have hO3 : E.tt l.F ρ GS = true := by
  simp (disch := omega) only [GS, ewZ, reduceCtorEq, seval, hSS, wl3]
  omega
 have hI3 : (E.tt l.F ρ Dx || E.tt l.F ρ (.cmp .geq (.bin .sub .i64 (E.app kJ 0 0 [E.var .x 4]) (.lit kJ 1)) (.lit kJ 0)) && E.tt l.F ρ (.cmp .lss (.bin .sub .i64 (E.app kJ 0 0 [E.var .x 4]) (.lit kJ 1)) (E.app kJ 0 0 [E.var .x 4]))) = true := by
  by_cases c : ((dc l3).length : Int) = 0
  ·have e : E.tt l.F ρ Dx = true := by
    simp (disch := omega) only [Dx, ewZ, reduceCtorEq, seval, hSS, wl3, c]
   rw [e]; rfl
  ·have e1 : E.tt l.F ρ (.cmp .geq (.bin .sub .i64 (E.app kJ 0 0 [E.var .x 4]) (.lit kJ 1)) (.lit kJ 0)) = true := by
    simp (disch := omega) only [ewZ, reduceCtorEq, seval, hSS, wl3, wm3]
    omega
   have e2 : E.tt l.F ρ (.cmp .lss (.bin .sub .i64 (E.app kJ 0 0 [E.var .x 4]) (.lit kJ 1)) (E.app kJ 0 0 [E.var .x 4])) = true := by
    simp (disch := omega) only [ewZ, reduceCtorEq, seval, hSS, wl3, wm3]
    omega
   rw [e1, e2]; simp
 have hP3 : E.tt l.F ρ (.app .b 100009216 1000000 [.var .b 640058982436801, .var (.i .u64) 640057702401472, .var (.i .u64) 640057702401473, .var (.i .u64) 640057702401474, .var (.i .u64) 640057702401475, .var .x 4, .var .x 4, (E.app kJ 0 0 [E.var .x 4]), .lit kJ 0]) = true := by
  simp (disch := omega) only [ewZ, reduceCtorEq, seval, hSS, wl3]
  exact y3
 have hv3_ : E.tt l.F ρ (.var .b 640058982448576) = i2b v11 := by rw [Bi, hv11]
 have hw3_ : E.tt l.F ρ (.var .b 640058982448577) = i2b v12 := by rw [Bi, hv12]
 have hN3 : E.tt l.F ρ GU = !decide (badP 4294967295 (dc l3)) := by rw [<- hB3]; exact A6 _ _ _
 have hS3 : E.tt l.F ρ Jm = (!decide (badP 4294967295 (dc l3)) && i2b v11) := by rw [<- hN3, <- hv3_]; exact AP _ _ _ _
 have hF3 : E.tt l.F ρ Js = (decide (badP 4294967295 (dc l3)) || (!decide (badP 4294967295 (dc l3)) && !i2b v11)) := by rw [<- hN3, <- hB3, <- hv3_, <- A6, <- AP]; exact BQ _ _ _ _
 have hO4 : E.tt l.F ρ GV = true := by
  simp (disch := omega) only [GV, ewZ, reduceCtorEq, seval, hSS, wl4]
  omega
 have hI4 : (E.tt l.F ρ Dy || E.tt l.F ρ (.cmp .geq (.bin .sub .i64 (E.app kJ 0 0 [E.var .x 5]) (.lit kJ 1)) (.lit kJ 0)) && E.tt l.F ρ (.cmp .lss (.bin .sub .i64 (E.app kJ 0 0 [E.var .x 5]) (.lit kJ 1)) (E.app kJ 0 0 [E.var .x 5]))) = true := by
  by_cases c : ((dc l4).length : Int) = 0
  ·have e : E.tt l.F ρ Dy = true := by
    simp (disch := omega) only [Dy, ewZ, reduceCtorEq, seval, hSS, wl4, c]
   rw [e]; rfl
  ·have e1 : E.tt l.F ρ (.cmp .geq (.bin .sub .i64 (E.app kJ 0 0 [E.var .x 5]) (.lit kJ 1)) (.lit kJ 0)) = true := by
    simp (disch := omega) only [ewZ, reduceCtorEq, seval, hSS, wl4, wm4]
    omega
   have e2 : E.tt l.F ρ (.cmp .lss (.bin .sub .i64 (E.app kJ 0 0 [E.var .x 5]) (.lit kJ 1)) (E.app kJ 0 0 [E.var .x 5])) = true := by
    simp (disch := omega) only [ewZ, reduceCtorEq, seval, hSS, wl4, wm4]
    omega
   rw [e1, e2]; simp
 have hP4 : E.tt l.F ρ (.app .b 100009216 1000000 [.var .b 640058982448577, .var (.i .u64) 640057702401472, .var (.i .u64) 640057702401473, .var (.i .u64) 640057702401474, .var (.i .u64) 640057702401475, .var .x 5, .var .x 5, (E.app kJ 0 0 [E.var .x 5]), .lit kJ 0]) = true := by
  simp (disch := omega) only [ewZ, reduceCtorEq, seval, hSS, wl4]
  exact y4
 have hv4_ : E.tt l.F ρ (.var .b 640058982460352) = i2b v13 := by rw [Bi, hv13]
 have hw4_ : E.tt l.F ρ (.var .b 640058982460353) = i2b v14 := by rw [Bi, hv14]
 have hN4 : E.tt l.F ρ GW = !decide (badP 65535 (dc l4)) := by rw [<- hB4]; exact A6 _ _ _
 have hS4 : E.tt l.F ρ Jn = (!decide (badP 65535 (dc l4)) && i2b v13) := by rw [<- hN4, <- hv4_]; exact AP _ _ _ _
 have hF4 : E.tt l.F ρ Jt = (decide (badP 65535 (dc l4)) || (!decide (badP 65535 (dc l4)) && !i2b v13)) := by rw [<- hN4, <- hB4, <- hv4_, <- A6, <- AP]; exact BQ _ _ _ _
 have hO5 : E.tt l.F ρ GX = true := by
  simp (disch := omega) only [GX, ewZ, reduceCtorEq, seval, hSS, wl5]
  omega
 have hI5 : (E.tt l.F ρ Dz || E.tt l.F ρ (.cmp .geq (.bin .sub .i64 (E.app kJ 0 0 [E.var .x 6]) (.lit kJ 1)) (.lit kJ 0)) && E.tt l.F ρ (.cmp .lss (.bin .sub .i64 (E.app kJ 0 0 [E.var .x 6]) (.lit kJ 1)) (E.app kJ 0 0 [E.var .x 6]))) = true := by
  by_cases c : ((dc l5).length : Int) = 0
  ·have e : E.tt l.F ρ Dz = true := by
    simp (disch := omega) only [Dz, ewZ, reduceCtorEq, seval, hSS, wl5, c]
   rw [e]; rfl
  ·have e1 : E.tt l.F ρ (.cmp .geq (.bin .sub .i64 (E.app kJ 0 0 [E.var .x 6]) (.lit kJ 1)) (.lit kJ 0)) = true := by
    simp (disch := omega) only [ewZ, reduceCtorEq, seval, hSS, wl5, wm5]
    omega
   have e2 : E.tt l.F ρ (.cmp .lss (.bin .sub .i64 (E.app kJ 0 0 [E.var .x 6]) (.lit kJ 1)) (E.app kJ 0 0 [E.var .x 6])) = true := by
    simp (disch := omega) only [ewZ, reduceCtorEq, seval, hSS, wl5, wm5]
    omega
   rw [e1, e2]; simp
 have hP5 : E.tt l.F ρ (.app .b 100009216 1000000 [.var .b 640058982460353, .var (.i .u64) 640057702401472, .var (.i .u64) 640057702401473, .var (.i .u64) 640057702401474, .var (.i .u64) 640057702401475, .var .x 6, .var .x 6, (E.app kJ 0 0 [E.var .x 6]), .lit kJ 0]) = true := by
  simp (disch := omega) only [ewZ, reduceCtorEq, seval, hSS, wl5]
  exact y5
 have hv5_ : E.tt l.F ρ (.var .b 640058982472128) = i2b v15 := by rw [Bi, hv15]
 have hw5_ : E.tt l.F ρ (.var .b 640058982472129) = i2b v16 := by rw [Bi, hv16]
 have hN5 : E.tt l.F ρ GY = !decide (badP 65535 (dc l5)) := by rw [<- hB5]; exact A6 _ _ _
 have hS5 : E.tt l.F ρ Jo = (!decide (badP 65535 (dc l5)) && i2b v15) := by rw [<- hN5, <- hv5_]; exact AP _ _ _ _
 have hF5 : E.tt l.F ρ Ju = (decide (badP 65535 (dc l5)) || (!decide (badP 65535 (dc l5)) && !i2b v15)) := by rw [<- hN5, <- hB5, <- hv5_, <- A6, <- AP]; exact BQ _ _ _ _
 have hO6 : E.tt l.F ρ GZ = true := by
  simp (disch := omega) only [GZ, ewZ, reduceCtorEq, seval, hSS, wl6]
  omega
 have hI6 : (E.tt l.F ρ DA || E.tt l.F ρ (.cmp .geq (.bin .sub .i64 (E.app kJ 0 0 [E.var .x 7]) (.lit kJ 1)) (.lit kJ 0)) && E.tt l.F ρ (.cmp .lss (.bin .sub .i64 (E.app kJ 0 0 [E.var .x 7]) (.lit kJ 1)) (E.app kJ 0 0 [E.var .x 7]))) = true := by
  by_cases c : ((dc l6).length : Int) = 0
  ·have e : E.tt l.F ρ DA = true := by
    simp (disch := omega) only [DA, ewZ, reduceCtorEq, seval, hSS, wl6, c]
   rw [e]; rfl
  ·have e1 : E.tt l.F ρ (.cmp .geq (.bin .sub .i64 (E.app kJ 0 0 [E.var .x 7]) (.lit kJ 1)) (.lit kJ 0)) = true := by
    simp (disch := omega) only [ewZ, reduceCtorEq, seval, hSS, wl6, wm6]
    omega
   have e2 : E.tt l.F ρ (.cmp .lss (.bin .sub .i64 (E.app kJ 0 0 [E.var .x 7]) (.lit kJ 1)) (E.app kJ 0 0 [E.var .x 7])) = true := by
    simp (disch := omega) only [ewZ, reduceCtorEq, seval, hSS, wl6, wm6]
    omega
   rw [e1, e2]; simp
 have hP6 : E.tt l.F ρ (.app .b 100009216 1000000 [.var .b 640058982472129, .var (.i .u64) 640057702401472, .var (.i .u64) 640057702401473, .var (.i .u64) 640057702401474, .var (.i .u64) 640057702401475, .var .x 7, .var .x 7, (E.app kJ 0 0 [E.var .x 7]), .lit kJ 0]) = true := by
  simp (disch := omega) only [ewZ, reduceCtorEq, seval, hSS, wl6]
  exact y6
 have hv6_ : E.tt l.F ρ (.var .b 640058982483904) = i2b v17 := by rw [Bi, hv17]
 have hw6_ : E.tt l.F ρ (.var .b 640058982483905) = i2b v18 := by rw [Bi, hv18]
 have hN6 : E.tt l.F ρ Jv = !decide (badP 63 (dc l6)) := by rw [<- hB6]; exact A6 _ _ _
 refine ⟨?_, ?_⟩
 ·unfold IJ
  simp only [BQ, AP, A6, hX, hDf, hP, hO0, hI0, hP0, hv0_, hw0_, hB0, hN0, hS0, hF0, hO1, hI1, hP1, hv1_, hw1_, hB1, hN1, hS1, hF1, hO2, hI2, hP2, hv2_, hw2_, hB2, hN2, hS2, hF2, hO3, hI3, hP3, hv3_, hw3_, hB3, hN3, hS3, hF3, hO4, hI4, hP4, hv4_, hw4_, hB4, hN4, hS4, hF4, hO5, hI5, hP5, hv5_, hw5_, hB5, hN5, hS5, hF5, hO6, hI6, hP6, hv6_, hw6_, hB6, hN6, Bool.or_true, Bool.and_true, Bool.true_and]
 ·unfold IK
  simp only [List.map_cons, List.map_nil, Jc, BQ, AP, A6, PH, hX, hP, hO0, hI0, hP0, hv0_, hw0_, hB0, hN0, hS0, hF0, hO1, hI1, hP1, hv1_, hw1_, hB1, hN1, hS1, hF1, hO2, hI2, hP2, hv2_, hw2_, hB2, hN2, hS2, hF2, hO3, hI3, hP3, hv3_, hw3_, hB3, hN3, hS3, hF3, hO4, hI4, hP4, hv4_, hw4_, hB4, hN4, hS4, hF4, hO5, hI5, hP5, hv5_, hw5_, hB5, hN5, hS5, hF5, hO6, hI6, hP6, hv6_, hw6_, hB6, hN6, decide_eq_false h0, Bool.not_false, Bool.true_and]
  have hT : tabR [n, l0, l1, l2, l3, l4, l5, l6] ↔ fldR 1 [v1, v2, v3, v4] (dc l0) /\ fldR 2 [v1, v2, v3, v4] (dc l1) /\ fldR 4294967295 [v1, v2, v3, v4] (dc l2) /\ fldR 4294967295 [v1, v2, v3, v4] (dc l3) /\ fldR 65535 [v1, v2, v3, v4] (dc l4) /\ fldR 65535 [v1, v2, v3, v4] (dc l5) /\ fldR 63 [v1, v2, v3, v4] (dc l6) := by
   rw [zR]
   constructor
   ·rintro ⟨_, _, h⟩
    exact ⟨h 0 (by decide), h 1 (by decide), h 2 (by decide), h 3 (by decide), h 4 (by decide), h 5 (by decide), h 6 (by decide)⟩
   ·rintro ⟨g0, g1, g2, g3, g4, g5, g6⟩
    refine ⟨by show 0 <= n; omega, by show n <= 256; omega, fun k hk => ?_⟩
    match k, hk with
    | 0, _ => exact g0
    | 1, _ => exact g1
    | 2, _ => exact g2
    | 3, _ => exact g3
    | 4, _ => exact g4
    | 5, _ => exact g5
    | 6, _ => exact g6
  have no : ∀ X : Bool, X = false -> ¬ tabR [n, l0, l1, l2, l3, l4, l5, l6] -> Gt [n, l0, l1, l2, l3, l4, l5, l6] [b2i X] := fun X h1 h2 => by subst h1; exact Or.inr ⟨rfl, h2⟩
  rcases z0 with ⟨c0, f0⟩ | ⟨c0, rfl, f0⟩ | ⟨c0, rfl, rfl, f0⟩
  ·refine no _ ?_ fun h => f0 (hT.1 h).1
   simp [i2b, c0]
  rotate_left
  ·refine no _ ?_ fun h => f0 (hT.1 h).1
   simp [i2b, c0]
  rcases z1 with ⟨c1, f1⟩ | ⟨c1, rfl, f1⟩ | ⟨c1, rfl, rfl, f1⟩
  ·refine no _ ?_ fun h => f1 (hT.1 h).2.1
   simp [i2b, c1, c0]
  rotate_left
  ·refine no _ ?_ fun h => f1 (hT.1 h).2.1
   simp [i2b, c1, c0]
  rcases z2 with ⟨c2, f2⟩ | ⟨c2, rfl, f2⟩ | ⟨c2, rfl, rfl, f2⟩
  ·refine no _ ?_ fun h => f2 (hT.1 h).2.2.1
   simp [i2b, c2, c0, c1]
  rotate_left
  ·refine no _ ?_ fun h => f2 (hT.1 h).2.2.1
   simp [i2b, c2, c0, c1]
  rcases z3 with ⟨c3, f3⟩ | ⟨c3, rfl, f3⟩ | ⟨c3, rfl, rfl, f3⟩
  ·refine no _ ?_ fun h => f3 (hT.1 h).2.2.2.1
   simp [i2b, c3, c0, c1, c2]
  rotate_left
  ·refine no _ ?_ fun h => f3 (hT.1 h).2.2.2.1
   simp [i2b, c3, c0, c1, c2]
  rcases z4 with ⟨c4, f4⟩ | ⟨c4, rfl, f4⟩ | ⟨c4, rfl, rfl, f4⟩
  ·refine no _ ?_ fun h => f4 (hT.1 h).2.2.2.2.1
   simp [i2b, c4, c0, c1, c2, c3]
  rotate_left
  ·refine no _ ?_ fun h => f4 (hT.1 h).2.2.2.2.1
   simp [i2b, c4, c0, c1, c2, c3]
  rcases z5 with ⟨c5, f5⟩ | ⟨c5, rfl, f5⟩ | ⟨c5, rfl, rfl, f5⟩
  ·refine no _ ?_ fun h => f5 (hT.1 h).2.2.2.2.2.1
   simp [i2b, c5, c0, c1, c2, c3, c4]
  rotate_left
  ·refine no _ ?_ fun h => f5 (hT.1 h).2.2.2.2.2.1
   simp [i2b, c5, c0, c1, c2, c3, c4]
  rcases z6 with ⟨c6, f6⟩ | ⟨c6, rfl, f6⟩ | ⟨c6, rfl, rfl, f6⟩
  ·refine no _ ?_ fun h => f6 (hT.1 h).2.2.2.2.2.2
   simp [i2b, c6, c0, c1, c2, c3, c4, c5]
  rotate_left
  ·refine no _ ?_ fun h => f6 (hT.1 h).2.2.2.2.2.2
   simp [i2b, c6, c0, c1, c2, c3, c4, c5]
  have hx : ∀ X : Bool, X = true -> Gt [n, l0, l1, l2, l3, l4, l5, l6] [b2i X] := fun X h1 => by subst h1; exact Or.inl ⟨rfl, hT.2 ⟨f0, f1, f2, f3, f4, f5, f6⟩⟩
  refine hx _ ?_
  simp [i2b, c0, c1, c2, c3, c4, c5, c6]
end
end Go.Proofs.YtgpflpbldeflhaaDoor.Ew.Sr
