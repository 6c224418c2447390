/- Texts that the claim needs, set narrow. -/
import Derived.Test.YtgpflpbldeflhaaDooro9
import Derived.LaidByTextLater
import Derived.LaidSub
import Derived.LaidOnce
import GoSem.ClaimSeven
set_option linter.unusedVariables false
set_option linter.unusedSimpArgs false
set_option maxHeartbeats 8000000
namespace Go.Proofs.YtgpflpbldeflhaaDoor.Ew.Sr
open Go Go.RowKit
noncomputable section
def T2o (xs ys : List Int) : Prop := True
def tbx : Sh := .obj 25 [i64, lcl, lcl, lcl, lcl, lcl, lcl, lcl]
def p4 (k : Nat) : List Bool := [true,true,true,true,true,true,true,false,true,false] ++ List.replicate (k + 1) true ++ [false,true,true,false,false,true,true,true,false]
def q4 (k : Nat) : List Bool := p4 k ++ [false,true,true,false,false,true,true,true,false]
def Bx (C B : RL) (L k i : Nat) : Prop := ∀ n, n < L -> bitS ((C.getD i []).drop 1) n = bitS ((B.getD i []).drop 1) ((n + L - k) % L)
def preO3 (f : Nat) (xs : List Int) : Prop := Ac clK (dc (env xs 10)) /\ Ac clK (dc (env xs (3 + f))) /\ (0 <= env xs 1 /\ env xs 1 < env xs 12) /\ env xs 12 = ((dc (env xs 0)).length : Int) /\ env xs 12 <= 256 /\ (0 <= env xs 11 /\ env xs 11 < ((dc (env xs 10)).length : Int)) /\ (dc (env xs 10)).length = (dc (env xs (3 + f))).length /\ ((dc (env xs 10)).length : Int) <= 1000000 /\ (0 <= env xs 13 /\ env xs 13 <= env xs 12) /\ Bx (dc (env xs 10)) (dc (env xs (3 + f))) (dc (env xs 0)).length (env xs 1).toNat (env xs 11).toNat
def muO3 (xs : List Int) : Nat := (env xs 12 - env xs 13).toNat
def Rk (C B : RL) (L k : Nat) : Prop := C.length = B.length /\ ∀ i, i < C.length -> (C.getD i []).getD 0 0 = (B.getD i []).getD 0 0 /\ Bx C B L k i
def preO2 (f : Nat) (xs : List Int) : Prop := Ac clK (dc (env xs 10)) /\ Ac clK (dc (env xs (3 + f))) /\ (0 <= env xs 1 /\ env xs 1 < ((dc (env xs 0)).length : Int)) /\ ((dc (env xs 0)).length : Int) <= 256 /\ env xs 11 = ((dc (env xs 10)).length : Int) /\ env xs 11 <= 1000000 /\ (0 <= env xs 12 /\ env xs 12 <= env xs 11) /\ Rk (dc (env xs 10)) (dc (env xs (3 + f))) (dc (env xs 0)).length (env xs 1).toNat
def muO2 (xs : List Int) : Nat := (env xs 11 - env xs 12).toNat
def Nn : LEnt := ⟨⟨9304, 999999, [lru, i64, tbx, .lt kJ 0, lcl, i64, i64, i64], [], List.range 10, .tup [], z0, preO3 0⟩, [5, 6, 9, 11, 12, 13, 83, 84], [], [14, 15] ++ (List.range 41).map (· + 84), [.ex 4], 128, [5, 12]⟩
def qO30 : List Bool := q4 0
def leO30 : LEnt := Nn.fw (fnM Tryd.prog G1 4 qO30 Nn T2o)
def cO20 : Ctx := ⟨[], [(4, qO30, leO30)]⟩
def No : LEnt := ⟨⟨9204, 999999, [lru, i64, tbx, .lt kJ 0, lcl, i64, i64], [], List.range 10, .tup [], z0, preO2 0⟩, [5, 6, 9, 11, 12, 64, 65], [], [13, 14, 15] ++ (List.range 61).map (· + 65), [.ex 2], 128, [5, 12]⟩
def pO20 : List Bool := p4 0
def leO20 : LEnt := No.fw (fnM Tryd.prog G1 4 pO20 No T2o)
def Np : LEnt := ⟨⟨10304, 999999, [lru, i64, tbx, .lt kJ 1, lcl, i64, i64, i64], [], List.range 10, .tup [], z0, preO3 1⟩, [5, 6, 9, 11, 12, 13, 83, 84], [], [14, 15] ++ (List.range 41).map (· + 84), [.ex 4], 128, [5, 12]⟩
def qO31 : List Bool := q4 1
def leO31 : LEnt := Np.fw (fnM Tryd.prog G1 4 qO31 Np T2o)
def cO21 : Ctx := ⟨[], [(4, qO31, leO31)]⟩
def Nq : LEnt := ⟨⟨10204, 999999, [lru, i64, tbx, .lt kJ 1, lcl, i64, i64], [], List.range 10, .tup [], z0, preO2 1⟩, [5, 6, 9, 11, 12, 64, 65], [], [13, 14, 15] ++ (List.range 61).map (· + 65), [.ex 2], 128, [5, 12]⟩
def pO21 : List Bool := p4 1
def leO21 : LEnt := Nq.fw (fnM Tryd.prog G1 4 pO21 Nq T2o)
def Nr : LEnt := ⟨⟨11304, 999999, [lru, i64, tbx, .lt kJ 2, lcl, i64, i64, i64], [], List.range 10, .tup [], z0, preO3 2⟩, [5, 6, 9, 11, 12, 13, 83, 84], [], [14, 15] ++ (List.range 41).map (· + 84), [.ex 4], 128, [5, 12]⟩
def qO32 : List Bool := q4 2
def leO32 : LEnt := Nr.fw (fnM Tryd.prog G1 4 qO32 Nr T2o)
def cO22 : Ctx := ⟨[], [(4, qO32, leO32)]⟩
def Ns : LEnt := ⟨⟨11204, 999999, [lru, i64, tbx, .lt kJ 2, lcl, i64, i64], [], List.range 10, .tup [], z0, preO2 2⟩, [5, 6, 9, 11, 12, 64, 65], [], [13, 14, 15] ++ (List.range 61).map (· + 65), [.ex 2], 128, [5, 12]⟩
def pO22 : List Bool := p4 2
def leO22 : LEnt := Ns.fw (fnM Tryd.prog G1 4 pO22 Ns T2o)
def Nt : LEnt := ⟨⟨12304, 999999, [lru, i64, tbx, .lt kJ 3, lcl, i64, i64, i64], [], List.range 10, .tup [], z0, preO3 3⟩, [5, 6, 9, 11, 12, 13, 83, 84], [], [14, 15] ++ (List.range 41).map (· + 84), [.ex 4], 128, [5, 12]⟩
def qO33 : List Bool := q4 3
def leO33 : LEnt := Nt.fw (fnM Tryd.prog G1 4 qO33 Nt T2o)
def cO23 : Ctx := ⟨[], [(4, qO33, leO33)]⟩
def Nu : LEnt := ⟨⟨12204, 999999, [lru, i64, tbx, .lt kJ 3, lcl, i64, i64], [], List.range 10, .tup [], z0, preO2 3⟩, [5, 6, 9, 11, 12, 64, 65], [], [13, 14, 15] ++ (List.range 61).map (· + 65), [.ex 2], 128, [5, 12]⟩
def pO23 : List Bool := p4 3
def leO23 : LEnt := Nu.fw (fnM Tryd.prog G1 4 pO23 Nu T2o)
def Nv : LEnt := ⟨⟨13304, 999999, [lru, i64, tbx, .lt kJ 4, lcl, i64, i64, i64], [], List.range 10, .tup [], z0, preO3 4⟩, [5, 6, 9, 11, 12, 13, 83, 84], [], [14, 15] ++ (List.range 41).map (· + 84), [.ex 4], 128, [5, 12]⟩
def qO34 : List Bool := q4 4
def leO34 : LEnt := Nv.fw (fnM Tryd.prog G1 4 qO34 Nv T2o)
def cO24 : Ctx := ⟨[], [(4, qO34, leO34)]⟩
def Nw : LEnt := ⟨⟨13204, 999999, [lru, i64, tbx, .lt kJ 4, lcl, i64, i64], [], List.range 10, .tup [], z0, preO2 4⟩, [5, 6, 9, 11, 12, 64, 65], [], [13, 14, 15] ++ (List.range 61).map (· + 65), [.ex 2], 128, [5, 12]⟩
def pO24 : List Bool := p4 4
def leO24 : LEnt := Nw.fw (fnM Tryd.prog G1 4 pO24 Nw T2o)
def Nx : LEnt := ⟨⟨14304, 999999, [lru, i64, tbx, .lt kJ 5, lcl, i64, i64, i64], [], List.range 10, .tup [], z0, preO3 5⟩, [5, 6, 9, 11, 12, 13, 83, 84], [], [14, 15] ++ (List.range 41).map (· + 84), [.ex 4], 128, [5, 12]⟩
def qO35 : List Bool := q4 5
def leO35 : LEnt := Nx.fw (fnM Tryd.prog G1 4 qO35 Nx T2o)
def cO25 : Ctx := ⟨[], [(4, qO35, leO35)]⟩
def Ny : LEnt := ⟨⟨14204, 999999, [lru, i64, tbx, .lt kJ 5, lcl, i64, i64], [], List.range 10, .tup [], z0, preO2 5⟩, [5, 6, 9, 11, 12, 64, 65], [], [13, 14, 15] ++ (List.range 61).map (· + 65), [.ex 2], 128, [5, 12]⟩
def pO25 : List Bool := p4 5
def leO25 : LEnt := Ny.fw (fnM Tryd.prog G1 4 pO25 Ny T2o)
def Nz : LEnt := ⟨⟨15304, 999999, [lru, i64, tbx, .lt kJ 6, lcl, i64, i64, i64], [], List.range 10, .tup [], z0, preO3 6⟩, [5, 6, 9, 11, 12, 13, 83, 84], [], [14, 15] ++ (List.range 41).map (· + 84), [.ex 4], 128, [5, 12]⟩
def qO36 : List Bool := q4 6
def leO36 : LEnt := Nz.fw (fnM Tryd.prog G1 4 qO36 Nz T2o)
def cO26 : Ctx := ⟨[], [(4, qO36, leO36)]⟩
def NA : LEnt := ⟨⟨15204, 999999, [lru, i64, tbx, .lt kJ 6, lcl, i64, i64], [], List.range 10, .tup [], z0, preO2 6⟩, [5, 6, 9, 11, 12, 64, 65], [], [13, 14, 15] ++ (List.range 61).map (· + 65), [.ex 2], 128, [5, 12]⟩
def pO26 : List Bool := p4 6
def leO26 : LEnt := NA.fw (fnM Tryd.prog G1 4 pO26 NA T2o)
theorem Fo {k l j : Int} (hk : 0 <= k /\ k < l) (hl : l <= 256) (hj : 0 <= j /\ j < l) : IntKind.i64.wrap (j + l) = j + l /\ IntKind.i64.wrap (j + l - k) = j + l - k /\ ∃ M, IntKind.i64.wrap ((j + l - k).tmod l) = M /\ 0 <= M /\ M < l /\ M.toNat = (j.toNat + l.toNat - k.toNat) % l.toNat := by
 have h1 : ((j.toNat + l.toNat - k.toNat : Nat) : Int) = j + l - k := by omega
 have h2 : ((l.toNat : Nat) : Int) = l := by omega
 have e : (j + l - k) % l = (((j.toNat + l.toNat - k.toNat) % l.toNat : Nat) : Int) := by rw [Int.natCast_emod, h1, h2]
 have g1 : 0 <= (j + l - k) % l := Int.emod_nonneg _ (by omega)
 have g2 : (j + l - k) % l < l := Int.emod_lt_of_pos _ (by omega)
 refine ⟨i64w (by omega) (by omega), i64w (by omega) (by omega), (j + l - k) % l, ?_, g1, g2, by omega⟩
 rw [Int.tmod_eq_emod_of_nonneg (by omega)]
 exact i64w (by omega) (by omega)
theorem okO30 : Af Tryd.prog G1 4 qO30 leO30 /\ PostOK leO30.ent T2o := by
 refine Ctx.OK.nil.loopJ (c := cN) mixed muO3 true ⟨_, _, _, Tryd.func4, rfl, rfl⟩ 9304 rfl rfl ?_
 go_invoke
 refine ⟨_, _, _, _, rfl, by kernel_rfl, ?_⟩
 intro L k hk bn hbn b0 b1 b2 b3 b4 b5 b6 C i hi n hn j hj hp φ hφ l hS hF ρ hρe hd
 simp only [eqL, Nat.reduceAdd] at hρe
 have hSS := Jj (Jj hS (Jj hρe hk)) (Jj (Jj hbn hi) (Jj hn hj))
 obtain ⟨p1, p2, p3, p4, p5, p6, p7, p8, p9, p10⟩ := hp
 replace p1 : Ac clK (dc C) := p1
 replace p2 : Ac clK (dc b0) := p2
 replace p7 : (dc C).length = (dc b0).length := p7
 replace p10 : Bx (dc C) (dc b0) (dc L).length k.toNat i.toNat := p10
 simp only [ewY, seval] at p3 p4 p5 p6 p8 p9
 subst p4
 refine ⟨?_, trivial⟩
 by_cases c : j < ((dc L).length : Int)
 ·have w0 : IntKind.i64.wrap (j + 1) = j + 1 := i64w (by omega) (by omega)
  have wL : IntKind.i64.wrap ((dc L).length : Int) = ((dc L).length : Int) := i64w (by omega) (by omega)
  obtain ⟨a1, a2, M, hM, m0, m1, m2⟩ := Fo p3 p5 ⟨p9.1, c⟩
  obtain ⟨f0, f1, f2, f3, f4, ef, hf0, hs⟩ := An p1 (show i.toNat < (dc C).length by omega)
  obtain ⟨g0, g1, g2, g3, g4, eg, hg0, hg⟩ := An p2 (show i.toNat < (dc b0).length by omega)
  have z1 := Bq hs p9.1 (show j < 256 by omega)
  have z2 := Br p9.1 (show j < 256 by omega)
  have y1 := Bq hg m0 (show M < 256 by omega)
  have y2 := Br m0 (show M < 256 by omega)
  have b : bitS [f1, f2, f3, f4] j.toNat = bitS [g1, g2, g3, g4] M.toNat := by
   have b := p10 j.toNat (by omega)
   rw [ef, eg] at b
   rw [m2, show ((dc L).length : Int).toNat = (dc L).length by omega]; exact b
  have yp : Nn.ent.pre [L, k, bn, b0, b1, b2, b3, b4, b5, b6, C, i, ((dc L).length : Int), j + 1] := ⟨p1, p2, p3, rfl, p5, p6, p7, p8, ⟨by show 0 <= j + 1; omega, by show j + 1 <= ((dc L).length : Int); omega⟩, p10⟩
  have ym : muO3 [L, k, bn, b0, b1, b2, b3, b4, b5, b6, C, i, ((dc L).length : Int), j + 1] < muO3 [L, k, bn, b0, b1, b2, b3, b4, b5, b6, C, i, ((dc L).length : Int), j] := by show (((dc L).length : Int) - (j + 1)).toNat < (((dc L).length : Int) - j).toNat; omega
  simp (disch := omega) only [ewZ, reduceCtorEq, seval, hSS, c, ef, eg, hf0, hg0, wL, w0, a1, a2, hM, z1, y1, b]
  exact ⟨⟨by omega, p6.1, p6.2, by omega, z2.1, z2.2.1, z2.2.2, by omega, y2.1, y2.2.1, y2.2.2⟩, yp, ym⟩
 ·simp (disch := omega) only [ewZ, reduceCtorEq, seval, hSS, c]
theorem SB : cO20.OK Tryd.prog G1 := Ctx.OK.addL (c := ⟨[], []⟩) Ctx.OK.nil okO30.1 rfl
theorem okO20 : Af Tryd.prog G1 4 pO20 leO20 /\ PostOK leO20.ent T2o := by
 refine SB.loopJ mixed muO2 true ⟨_, _, _, Tryd.func4, rfl, rfl⟩ 9204 rfl rfl ?_
 go_invoke
 refine ⟨_, _, _, _, rfl, by kernel_rfl, ?_⟩
 intro L k hk bn hbn b0 b1 b2 b3 b4 b5 b6 C n hn i hi hp φ hφ l hS hF ρ hρe hd
 have F9304 := hF 9304 leO30.ent rfl rfl
 simp only [eqL, Nat.reduceAdd] at hρe
 have hSS := Jj (Jj hS (Jj F9304 hρe)) (Jj (Jj hk hbn) (Jj hn hi))
 obtain ⟨p1, p2, p3, p4, p5, p6, p7, p8, p9⟩ := hp
 replace p1 : Ac clK (dc C) := p1
 replace p2 : Ac clK (dc b0) := p2
 replace p8 : (dc C).length = (dc b0).length := p8
 replace p9 : ∀ i, i < (dc C).length -> ((dc C).getD i []).getD 0 0 = ((dc b0).getD i []).getD 0 0 /\ Bx (dc C) (dc b0) (dc L).length k.toNat i := p9
 simp only [ewY, seval] at p3 p4 p5 p6 p7
 refine ⟨?_, trivial⟩
 by_cases c : i < n
 ·have w0 : IntKind.i64.wrap (i + 1) = i + 1 := i64w (by omega) (by omega)
  have wL : IntKind.i64.wrap ((dc L).length : Int) = ((dc L).length : Int) := i64w (by omega) (by omega)
  obtain ⟨f0, f1, f2, f3, f4, ef, hf0, hs⟩ := An p1 (show i.toNat < (dc C).length by omega)
  obtain ⟨g0, g1, g2, g3, g4, eg, hg0, hg⟩ := An p2 (show i.toNat < (dc b0).length by omega)
  have q := p9 i.toNat (by omega)
  have q1 := q.1
  rw [ef, eg] at q1
  replace q1 : f0 = g0 := q1
  have y3 : leO30.ent.pre [L, k, bn, b0, b1, b2, b3, b4, b5, b6, C, i, ((dc L).length : Int), 0] := ⟨p1, p2, p3, rfl, p4, ⟨p7.1, by show i < ((dc C).length : Int); omega⟩, p8, by show ((dc C).length : Int) <= 1000000; omega, ⟨Int.le_refl _, Int.natCast_nonneg _⟩, q.2⟩
  have yp : No.ent.pre [L, k, bn, b0, b1, b2, b3, b4, b5, b6, C, n, i + 1] := ⟨p1, p2, p3, p4, p5, p6, ⟨by show 0 <= i + 1; omega, by show i + 1 <= n; omega⟩, p8, p9⟩
  have ym : muO2 [L, k, bn, b0, b1, b2, b3, b4, b5, b6, C, n, i + 1] < muO2 [L, k, bn, b0, b1, b2, b3, b4, b5, b6, C, n, i] := by show (n - (i + 1)).toNat < (n - i).toNat; omega
  simp (disch := omega) only [ewZ, reduceCtorEq, seval, hSS, c, ef, eg, hf0, hg0, q1, wL, w0]
  exact ⟨⟨p7.1, by omega, by omega, y3⟩, yp, ym⟩
 ·simp (disch := omega) only [ewZ, reduceCtorEq, seval, hSS, c]
theorem okO31 : Af Tryd.prog G1 4 qO31 leO31 /\ PostOK leO31.ent T2o := by
 refine Ctx.OK.nil.loopJ (c := cN) mixed muO3 true ⟨_, _, _, Tryd.func4, rfl, rfl⟩ 10304 rfl rfl ?_
 go_invoke
 refine ⟨_, _, _, _, rfl, by kernel_rfl, ?_⟩
 intro L k hk bn hbn b0 b1 b2 b3 b4 b5 b6 C i hi n hn j hj hp φ hφ l hS hF ρ hρe hd
 simp only [eqL, Nat.reduceAdd] at hρe
 have hSS := Jj (Jj hS (Jj hρe hk)) (Jj (Jj hbn hi) (Jj hn hj))
 obtain ⟨p1, p2, p3, p4, p5, p6, p7, p8, p9, p10⟩ := hp
 replace p1 : Ac clK (dc C) := p1
 replace p2 : Ac clK (dc b1) := p2
 replace p7 : (dc C).length = (dc b1).length := p7
 replace p10 : Bx (dc C) (dc b1) (dc L).length k.toNat i.toNat := p10
 simp only [ewY, seval] at p3 p4 p5 p6 p8 p9
 subst p4
 refine ⟨?_, trivial⟩
 by_cases c : j < ((dc L).length : Int)
 ·have w0 : IntKind.i64.wrap (j + 1) = j + 1 := i64w (by omega) (by omega)
  have wL : IntKind.i64.wrap ((dc L).length : Int) = ((dc L).length : Int) := i64w (by omega) (by omega)
  obtain ⟨a1, a2, M, hM, m0, m1, m2⟩ := Fo p3 p5 ⟨p9.1, c⟩
  obtain ⟨f0, f1, f2, f3, f4, ef, hf0, hs⟩ := An p1 (show i.toNat < (dc C).length by omega)
  obtain ⟨g0, g1, g2, g3, g4, eg, hg0, hg⟩ := An p2 (show i.toNat < (dc b1).length by omega)
  have z1 := Bq hs p9.1 (show j < 256 by omega)
  have z2 := Br p9.1 (show j < 256 by omega)
  have y1 := Bq hg m0 (show M < 256 by omega)
  have y2 := Br m0 (show M < 256 by omega)
  have b : bitS [f1, f2, f3, f4] j.toNat = bitS [g1, g2, g3, g4] M.toNat := by
   have b := p10 j.toNat (by omega)
   rw [ef, eg] at b
   rw [m2, show ((dc L).length : Int).toNat = (dc L).length by omega]; exact b
  have yp : Np.ent.pre [L, k, bn, b0, b1, b2, b3, b4, b5, b6, C, i, ((dc L).length : Int), j + 1] := ⟨p1, p2, p3, rfl, p5, p6, p7, p8, ⟨by show 0 <= j + 1; omega, by show j + 1 <= ((dc L).length : Int); omega⟩, p10⟩
  have ym : muO3 [L, k, bn, b0, b1, b2, b3, b4, b5, b6, C, i, ((dc L).length : Int), j + 1] < muO3 [L, k, bn, b0, b1, b2, b3, b4, b5, b6, C, i, ((dc L).length : Int), j] := by show (((dc L).length : Int) - (j + 1)).toNat < (((dc L).length : Int) - j).toNat; omega
  simp (disch := omega) only [ewZ, reduceCtorEq, seval, hSS, c, ef, eg, hf0, hg0, wL, w0, a1, a2, hM, z1, y1, b]
  exact ⟨⟨by omega, p6.1, p6.2, by omega, z2.1, z2.2.1, z2.2.2, by omega, y2.1, y2.2.1, y2.2.2⟩, yp, ym⟩
 ·simp (disch := omega) only [ewZ, reduceCtorEq, seval, hSS, c]
theorem SC : cO21.OK Tryd.prog G1 := Ctx.OK.addL (c := ⟨[], []⟩) Ctx.OK.nil okO31.1 rfl
theorem okO21 : Af Tryd.prog G1 4 pO21 leO21 /\ PostOK leO21.ent T2o := by
 refine SC.loopJ mixed muO2 true ⟨_, _, _, Tryd.func4, rfl, rfl⟩ 10204 rfl rfl ?_
 go_invoke
 refine ⟨_, _, _, _, rfl, by kernel_rfl, ?_⟩
 intro L k hk bn hbn b0 b1 b2 b3 b4 b5 b6 C n hn i hi hp φ hφ l hS hF ρ hρe hd
 have F10304 := hF 10304 leO31.ent rfl rfl
 simp only [eqL, Nat.reduceAdd] at hρe
 have hSS := Jj (Jj hS (Jj F10304 hρe)) (Jj (Jj hk hbn) (Jj hn hi))
 obtain ⟨p1, p2, p3, p4, p5, p6, p7, p8, p9⟩ := hp
 replace p1 : Ac clK (dc C) := p1
 replace p2 : Ac clK (dc b1) := p2
 replace p8 : (dc C).length = (dc b1).length := p8
 replace p9 : ∀ i, i < (dc C).length -> ((dc C).getD i []).getD 0 0 = ((dc b1).getD i []).getD 0 0 /\ Bx (dc C) (dc b1) (dc L).length k.toNat i := p9
 simp only [ewY, seval] at p3 p4 p5 p6 p7
 refine ⟨?_, trivial⟩
 by_cases c : i < n
 ·have w0 : IntKind.i64.wrap (i + 1) = i + 1 := i64w (by omega) (by omega)
  have wL : IntKind.i64.wrap ((dc L).length : Int) = ((dc L).length : Int) := i64w (by omega) (by omega)
  obtain ⟨f0, f1, f2, f3, f4, ef, hf0, hs⟩ := An p1 (show i.toNat < (dc C).length by omega)
  obtain ⟨g0, g1, g2, g3, g4, eg, hg0, hg⟩ := An p2 (show i.toNat < (dc b1).length by omega)
  have q := p9 i.toNat (by omega)
  have q1 := q.1
  rw [ef, eg] at q1
  replace q1 : f0 = g0 := q1
  have y3 : leO31.ent.pre [L, k, bn, b0, b1, b2, b3, b4, b5, b6, C, i, ((dc L).length : Int), 0] := ⟨p1, p2, p3, rfl, p4, ⟨p7.1, by show i < ((dc C).length : Int); omega⟩, p8, by show ((dc C).length : Int) <= 1000000; omega, ⟨Int.le_refl _, Int.natCast_nonneg _⟩, q.2⟩
  have yp : Nq.ent.pre [L, k, bn, b0, b1, b2, b3, b4, b5, b6, C, n, i + 1] := ⟨p1, p2, p3, p4, p5, p6, ⟨by show 0 <= i + 1; omega, by show i + 1 <= n; omega⟩, p8, p9⟩
  have ym : muO2 [L, k, bn, b0, b1, b2, b3, b4, b5, b6, C, n, i + 1] < muO2 [L, k, bn, b0, b1, b2, b3, b4, b5, b6, C, n, i] := by show (n - (i + 1)).toNat < (n - i).toNat; omega
  simp (disch := omega) only [ewZ, reduceCtorEq, seval, hSS, c, ef, eg, hf0, hg0, q1, wL, w0]
  exact ⟨⟨p7.1, by omega, by omega, y3⟩, yp, ym⟩
 ·simp (disch := omega) only [ewZ, reduceCtorEq, seval, hSS, c]
theorem okO32 : Af Tryd.prog G1 4 qO32 leO32 /\ PostOK leO32.ent T2o := by
 refine Ctx.OK.nil.loopJ (c := cN) mixed muO3 true ⟨_, _, _, Tryd.func4, rfl, rfl⟩ 11304 rfl rfl ?_
 go_invoke
 refine ⟨_, _, _, _, rfl, by kernel_rfl, ?_⟩
 intro L k hk bn hbn b0 b1 b2 b3 b4 b5 b6 C i hi n hn j hj hp φ hφ l hS hF ρ hρe hd
 simp only [eqL, Nat.reduceAdd] at hρe
 have hSS := Jj (Jj hS (Jj hρe hk)) (Jj (Jj hbn hi) (Jj hn hj))
 obtain ⟨p1, p2, p3, p4, p5, p6, p7, p8, p9, p10⟩ := hp
 replace p1 : Ac clK (dc C) := p1
 replace p2 : Ac clK (dc b2) := p2
 replace p7 : (dc C).length = (dc b2).length := p7
 replace p10 : Bx (dc C) (dc b2) (dc L).length k.toNat i.toNat := p10
 simp only [ewY, seval] at p3 p4 p5 p6 p8 p9
 subst p4
 refine ⟨?_, trivial⟩
 by_cases c : j < ((dc L).length : Int)
 ·have w0 : IntKind.i64.wrap (j + 1) = j + 1 := i64w (by omega) (by omega)
  have wL : IntKind.i64.wrap ((dc L).length : Int) = ((dc L).length : Int) := i64w (by omega) (by omega)
  obtain ⟨a1, a2, M, hM, m0, m1, m2⟩ := Fo p3 p5 ⟨p9.1, c⟩
  obtain ⟨f0, f1, f2, f3, f4, ef, hf0, hs⟩ := An p1 (show i.toNat < (dc C).length by omega)
  obtain ⟨g0, g1, g2, g3, g4, eg, hg0, hg⟩ := An p2 (show i.toNat < (dc b2).length by omega)
  have z1 := Bq hs p9.1 (show j < 256 by omega)
  have z2 := Br p9.1 (show j < 256 by omega)
  have y1 := Bq hg m0 (show M < 256 by omega)
  have y2 := Br m0 (show M < 256 by omega)
  have b : bitS [f1, f2, f3, f4] j.toNat = bitS [g1, g2, g3, g4] M.toNat := by
   have b := p10 j.toNat (by omega)
   rw [ef, eg] at b
   rw [m2, show ((dc L).length : Int).toNat = (dc L).length by omega]; exact b
  have yp : Nr.ent.pre [L, k, bn, b0, b1, b2, b3, b4, b5, b6, C, i, ((dc L).length : Int), j + 1] := ⟨p1, p2, p3, rfl, p5, p6, p7, p8, ⟨by show 0 <= j + 1; omega, by show j + 1 <= ((dc L).length : Int); omega⟩, p10⟩
  have ym : muO3 [L, k, bn, b0, b1, b2, b3, b4, b5, b6, C, i, ((dc L).length : Int), j + 1] < muO3 [L, k, bn, b0, b1, b2, b3, b4, b5, b6, C, i, ((dc L).length : Int), j] := by show (((dc L).length : Int) - (j + 1)).toNat < (((dc L).length : Int) - j).toNat; omega
  simp (disch := omega) only [ewZ, reduceCtorEq, seval, hSS, c, ef, eg, hf0, hg0, wL, w0, a1, a2, hM, z1, y1, b]
  exact ⟨⟨by omega, p6.1, p6.2, by omega, z2.1, z2.2.1, z2.2.2, by omega, y2.1, y2.2.1, y2.2.2⟩, yp, ym⟩
 ·simp (disch := omega) only [ewZ, reduceCtorEq, seval, hSS, c]
theorem SD : cO22.OK Tryd.prog G1 := Ctx.OK.addL (c := ⟨[], []⟩) Ctx.OK.nil okO32.1 rfl
theorem okO22 : Af Tryd.prog G1 4 pO22 leO22 /\ PostOK leO22.ent T2o := by
 refine SD.loopJ mixed muO2 true ⟨_, _, _, Tryd.func4, rfl, rfl⟩ 11204 rfl rfl ?_
 go_invoke
 refine ⟨_, _, _, _, rfl, by kernel_rfl, ?_⟩
 intro L k hk bn hbn b0 b1 b2 b3 b4 b5 b6 C n hn i hi hp φ hφ l hS hF ρ hρe hd
 have F11304 := hF 11304 leO32.ent rfl rfl
 simp only [eqL, Nat.reduceAdd] at hρe
 have hSS := Jj (Jj hS (Jj F11304 hρe)) (Jj (Jj hk hbn) (Jj hn hi))
 obtain ⟨p1, p2, p3, p4, p5, p6, p7, p8, p9⟩ := hp
 replace p1 : Ac clK (dc C) := p1
 replace p2 : Ac clK (dc b2) := p2
 replace p8 : (dc C).length = (dc b2).length := p8
 replace p9 : ∀ i, i < (dc C).length -> ((dc C).getD i []).getD 0 0 = ((dc b2).getD i []).getD 0 0 /\ Bx (dc C) (dc b2) (dc L).length k.toNat i := p9
 simp only [ewY, seval] at p3 p4 p5 p6 p7
 refine ⟨?_, trivial⟩
 by_cases c : i < n
 ·have w0 : IntKind.i64.wrap (i + 1) = i + 1 := i64w (by omega) (by omega)
  have wL : IntKind.i64.wrap ((dc L).length : Int) = ((dc L).length : Int) := i64w (by omega) (by omega)
  obtain ⟨f0, f1, f2, f3, f4, ef, hf0, hs⟩ := An p1 (show i.toNat < (dc C).length by omega)
  obtain ⟨g0, g1, g2, g3, g4, eg, hg0, hg⟩ := An p2 (show i.toNat < (dc b2).length by omega)
  have q := p9 i.toNat (by omega)
  have q1 := q.1
  rw [ef, eg] at q1
  replace q1 : f0 = g0 := q1
  have y3 : leO32.ent.pre [L, k, bn, b0, b1, b2, b3, b4, b5, b6, C, i, ((dc L).length : Int), 0] := ⟨p1, p2, p3, rfl, p4, ⟨p7.1, by show i < ((dc C).length : Int); omega⟩, p8, by show ((dc C).length : Int) <= 1000000; omega, ⟨Int.le_refl _, Int.natCast_nonneg _⟩, q.2⟩
  have yp : Ns.ent.pre [L, k, bn, b0, b1, b2, b3, b4, b5, b6, C, n, i + 1] := ⟨p1, p2, p3, p4, p5, p6, ⟨by show 0 <= i + 1; omega, by show i + 1 <= n; omega⟩, p8, p9⟩
  have ym : muO2 [L, k, bn, b0, b1, b2, b3, b4, b5, b6, C, n, i + 1] < muO2 [L, k, bn, b0, b1, b2, b3, b4, b5, b6, C, n, i] := by show (n - (i + 1)).toNat < (n - i).toNat; omega
  simp (disch := omega) only [ewZ, reduceCtorEq, seval, hSS, c, ef, eg, hf0, hg0, q1, wL, w0]
  exact ⟨⟨p7.1, by omega, by omega, y3⟩, yp, ym⟩
 ·simp (disch := omega) only [ewZ, reduceCtorEq, seval, hSS, c]
theorem okO33 : Af Tryd.prog G1 4 qO33 leO33 /\ PostOK leO33.ent T2o := by
 refine Ctx.OK.nil.loopJ (c := cN) mixed muO3 true ⟨_, _, _, Tryd.func4, rfl, rfl⟩ 12304 rfl rfl ?_
 go_invoke
 refine ⟨_, _, _, _, rfl, by kernel_rfl, ?_⟩
 intro L k hk bn hbn b0 b1 b2 b3 b4 b5 b6 C i hi n hn j hj hp φ hφ l hS hF ρ hρe hd
 simp only [eqL, Nat.reduceAdd] at hρe
 have hSS := Jj (Jj hS (Jj hρe hk)) (Jj (Jj hbn hi) (Jj hn hj))
 obtain ⟨p1, p2, p3, p4, p5, p6, p7, p8, p9, p10⟩ := hp
 replace p1 : Ac clK (dc C) := p1
 replace p2 : Ac clK (dc b3) := p2
 replace p7 : (dc C).length = (dc b3).length := p7
 replace p10 : Bx (dc C) (dc b3) (dc L).length k.toNat i.toNat := p10
 simp only [ewY, seval] at p3 p4 p5 p6 p8 p9
 subst p4
 refine ⟨?_, trivial⟩
 by_cases c : j < ((dc L).length : Int)
 ·have w0 : IntKind.i64.wrap (j + 1) = j + 1 := i64w (by omega) (by omega)
  have wL : IntKind.i64.wrap ((dc L).length : Int) = ((dc L).length : Int) := i64w (by omega) (by omega)
  obtain ⟨a1, a2, M, hM, m0, m1, m2⟩ := Fo p3 p5 ⟨p9.1, c⟩
  obtain ⟨f0, f1, f2, f3, f4, ef, hf0, hs⟩ := An p1 (show i.toNat < (dc C).length by omega)
  obtain ⟨g0, g1, g2, g3, g4, eg, hg0, hg⟩ := An p2 (show i.toNat < (dc b3).length by omega)
  have z1 := Bq hs p9.1 (show j < 256 by omega)
  have z2 := Br p9.1 (show j < 256 by omega)
  have y1 := Bq hg m0 (show M < 256 by omega)
  have y2 := Br m0 (show M < 256 by omega)
  have b : bitS [f1, f2, f3, f4] j.toNat = bitS [g1, g2, g3, g4] M.toNat := by
   have b := p10 j.toNat (by omega)
   rw [ef, eg] at b
   rw [m2, show ((dc L).length : Int).toNat = (dc L).length by omega]; exact b
  have yp : Nt.ent.pre [L, k, bn, b0, b1, b2, b3, b4, b5, b6, C, i, ((dc L).length : Int), j + 1] := ⟨p1, p2, p3, rfl, p5, p6, p7, p8, ⟨by show 0 <= j + 1; omega, by show j + 1 <= ((dc L).length : Int); omega⟩, p10⟩
  have ym : muO3 [L, k, bn, b0, b1, b2, b3, b4, b5, b6, C, i, ((dc L).length : Int), j + 1] < muO3 [L, k, bn, b0, b1, b2, b3, b4, b5, b6, C, i, ((dc L).length : Int), j] := by show (((dc L).length : Int) - (j + 1)).toNat < (((dc L).length : Int) - j).toNat; omega
  simp (disch := omega) only [ewZ, reduceCtorEq, seval, hSS, c, ef, eg, hf0, hg0, wL, w0, a1, a2, hM, z1, y1, b]
  exact ⟨⟨by omega, p6.1, p6.2, by omega, z2.1, z2.2.1, z2.2.2, by omega, y2.1, y2.2.1, y2.2.2⟩, yp, ym⟩
 ·simp (disch := omega) only [ewZ, reduceCtorEq, seval, hSS, c]
theorem SE : cO23.OK Tryd.prog G1 := Ctx.OK.addL (c := ⟨[], []⟩) Ctx.OK.nil okO33.1 rfl
theorem okO23 : Af Tryd.prog G1 4 pO23 leO23 /\ PostOK leO23.ent T2o := by
 refine SE.loopJ mixed muO2 true ⟨_, _, _, Tryd.func4, rfl, rfl⟩ 12204 rfl rfl ?_
 go_invoke
 refine ⟨_, _, _, _, rfl, by kernel_rfl, ?_⟩
 intro L k hk bn hbn b0 b1 b2 b3 b4 b5 b6 C n hn i hi hp φ hφ l hS hF ρ hρe hd
 have F12304 := hF 12304 leO33.ent rfl rfl
 simp only [eqL, Nat.reduceAdd] at hρe
 have hSS := Jj (Jj hS (Jj F12304 hρe)) (Jj (Jj hk hbn) (Jj hn hi))
 obtain ⟨p1, p2, p3, p4, p5, p6, p7, p8, p9⟩ := hp
 replace p1 : Ac clK (dc C) := p1
 replace p2 : Ac clK (dc b3) := p2
 replace p8 : (dc C).length = (dc b3).length := p8
 replace p9 : ∀ i, i < (dc C).length -> ((dc C).getD i []).getD 0 0 = ((dc b3).getD i []).getD 0 0 /\ Bx (dc C) (dc b3) (dc L).length k.toNat i := p9
 simp only [ewY, seval] at p3 p4 p5 p6 p7
 refine ⟨?_, trivial⟩
 by_cases c : i < n
 ·have w0 : IntKind.i64.wrap (i + 1) = i + 1 := i64w (by omega) (by omega)
  have wL : IntKind.i64.wrap ((dc L).length : Int) = ((dc L).length : Int) := i64w (by omega) (by omega)
  obtain ⟨f0, f1, f2, f3, f4, ef, hf0, hs⟩ := An p1 (show i.toNat < (dc C).length by omega)
  obtain ⟨g0, g1, g2, g3, g4, eg, hg0, hg⟩ := An p2 (show i.toNat < (dc b3).length by omega)
  have q := p9 i.toNat (by omega)
  have q1 := q.1
  rw [ef, eg] at q1
  replace q1 : f0 = g0 := q1
  have y3 : leO33.ent.pre [L, k, bn, b0, b1, b2, b3, b4, b5, b6, C, i, ((dc L).length : Int), 0] := ⟨p1, p2, p3, rfl, p4, ⟨p7.1, by show i < ((dc C).length : Int); omega⟩, p8, by show ((dc C).length : Int) <= 1000000; omega, ⟨Int.le_refl _, Int.natCast_nonneg _⟩, q.2⟩
  have yp : Nu.ent.pre [L, k, bn, b0, b1, b2, b3, b4, b5, b6, C, n, i + 1] := ⟨p1, p2, p3, p4, p5, p6, ⟨by show 0 <= i + 1; omega, by show i + 1 <= n; omega⟩, p8, p9⟩
  have ym : muO2 [L, k, bn, b0, b1, b2, b3, b4, b5, b6, C, n, i + 1] < muO2 [L, k, bn, b0, b1, b2, b3, b4, b5, b6, C, n, i] := by show (n - (i + 1)).toNat < (n - i).toNat; omega
  simp (disch := omega) only [ewZ, reduceCtorEq, seval, hSS, c, ef, eg, hf0, hg0, q1, wL, w0]
  exact ⟨⟨p7.1, by omega, by omega, y3⟩, yp, ym⟩
 ·simp (disch := omega) only [ewZ, reduceCtorEq, seval, hSS, c]
theorem okO34 : Af Tryd.prog G1 4 qO34 leO34 /\ PostOK leO34.ent T2o := by
 refine Ctx.OK.nil.loopJ (c := cN) mixed muO3 true ⟨_, _, _, Tryd.func4, rfl, rfl⟩ 13304 rfl rfl ?_
 go_invoke
 refine ⟨_, _, _, _, rfl, by kernel_rfl, ?_⟩
 intro L k hk bn hbn b0 b1 b2 b3 b4 b5 b6 C i hi n hn j hj hp φ hφ l hS hF ρ hρe hd
 simp only [eqL, Nat.reduceAdd] at hρe
 have hSS := Jj (Jj hS (Jj hρe hk)) (Jj (Jj hbn hi) (Jj hn hj))
 obtain ⟨p1, p2, p3, p4, p5, p6, p7, p8, p9, p10⟩ := hp
 replace p1 : Ac clK (dc C) := p1
 replace p2 : Ac clK (dc b4) := p2
 replace p7 : (dc C).length = (dc b4).length := p7
 replace p10 : Bx (dc C) (dc b4) (dc L).length k.toNat i.toNat := p10
 simp only [ewY, seval] at p3 p4 p5 p6 p8 p9
 subst p4
 refine ⟨?_, trivial⟩
 by_cases c : j < ((dc L).length : Int)
 ·have w0 : IntKind.i64.wrap (j + 1) = j + 1 := i64w (by omega) (by omega)
  have wL : IntKind.i64.wrap ((dc L).length : Int) = ((dc L).length : Int) := i64w (by omega) (by omega)
  obtain ⟨a1, a2, M, hM, m0, m1, m2⟩ := Fo p3 p5 ⟨p9.1, c⟩
  obtain ⟨f0, f1, f2, f3, f4, ef, hf0, hs⟩ := An p1 (show i.toNat < (dc C).length by omega)
  obtain ⟨g0, g1, g2, g3, g4, eg, hg0, hg⟩ := An p2 (show i.toNat < (dc b4).length by omega)
  have z1 := Bq hs p9.1 (show j < 256 by omega)
  have z2 := Br p9.1 (show j < 256 by omega)
  have y1 := Bq hg m0 (show M < 256 by omega)
  have y2 := Br m0 (show M < 256 by omega)
  have b : bitS [f1, f2, f3, f4] j.toNat = bitS [g1, g2, g3, g4] M.toNat := by
   have b := p10 j.toNat (by omega)
   rw [ef, eg] at b
   rw [m2, show ((dc L).length : Int).toNat = (dc L).length by omega]; exact b
  have yp : Nv.ent.pre [L, k, bn, b0, b1, b2, b3, b4, b5, b6, C, i, ((dc L).length : Int), j + 1] := ⟨p1, p2, p3, rfl, p5, p6, p7, p8, ⟨by show 0 <= j + 1; omega, by show j + 1 <= ((dc L).length : Int); omega⟩, p10⟩
  have ym : muO3 [L, k, bn, b0, b1, b2, b3, b4, b5, b6, C, i, ((dc L).length : Int), j + 1] < muO3 [L, k, bn, b0, b1, b2, b3, b4, b5, b6, C, i, ((dc L).length : Int), j] := by show (((dc L).length : Int) - (j + 1)).toNat < (((dc L).length : Int) - j).toNat; omega
  simp (disch := omega) only [ewZ, reduceCtorEq, seval, hSS, c, ef, eg, hf0, hg0, wL, w0, a1, a2, hM, z1, y1, b]
  exact ⟨⟨by omega, p6.1, p6.2, by omega, z2.1, z2.2.1, z2.2.2, by omega, y2.1, y2.2.1, y2.2.2⟩, yp, ym⟩
 ·simp (disch := omega) only [ewZ, reduceCtorEq, seval, hSS, c]
theorem SF : cO24.OK Tryd.prog G1 := Ctx.OK.addL (c := ⟨[], []⟩) Ctx.OK.nil okO34.1 rfl
theorem okO24 : Af Tryd.prog G1 4 pO24 leO24 /\ PostOK leO24.ent T2o := by
 refine SF.loopJ mixed muO2 true ⟨_, _, _, Tryd.func4, rfl, rfl⟩ 13204 rfl rfl ?_
 go_invoke
 refine ⟨_, _, _, _, rfl, by kernel_rfl, ?_⟩
 intro L k hk bn hbn b0 b1 b2 b3 b4 b5 b6 C n hn i hi hp φ hφ l hS hF ρ hρe hd
 have F13304 := hF 13304 leO34.ent rfl rfl
 simp only [eqL, Nat.reduceAdd] at hρe
 have hSS := Jj (Jj hS (Jj F13304 hρe)) (Jj (Jj hk hbn) (Jj hn hi))
 obtain ⟨p1, p2, p3, p4, p5, p6, p7, p8, p9⟩ := hp
 replace p1 : Ac clK (dc C) := p1
 replace p2 : Ac clK (dc b4) := p2
 replace p8 : (dc C).length = (dc b4).length := p8
 replace p9 : ∀ i, i < (dc C).length -> ((dc C).getD i []).getD 0 0 = ((dc b4).getD i []).getD 0 0 /\ Bx (dc C) (dc b4) (dc L).length k.toNat i := p9
 simp only [ewY, seval] at p3 p4 p5 p6 p7
 refine ⟨?_, trivial⟩
 by_cases c : i < n
 ·have w0 : IntKind.i64.wrap (i + 1) = i + 1 := i64w (by omega) (by omega)
  have wL : IntKind.i64.wrap ((dc L).length : Int) = ((dc L).length : Int) := i64w (by omega) (by omega)
  obtain ⟨f0, f1, f2, f3, f4, ef, hf0, hs⟩ := An p1 (show i.toNat < (dc C).length by omega)
  obtain ⟨g0, g1, g2, g3, g4, eg, hg0, hg⟩ := An p2 (show i.toNat < (dc b4).length by omega)
  have q := p9 i.toNat (by omega)
  have q1 := q.1
  rw [ef, eg] at q1
  replace q1 : f0 = g0 := q1
  have y3 : leO34.ent.pre [L, k, bn, b0, b1, b2, b3, b4, b5, b6, C, i, ((dc L).length : Int), 0] := ⟨p1, p2, p3, rfl, p4, ⟨p7.1, by show i < ((dc C).length : Int); omega⟩, p8, by show ((dc C).length : Int) <= 1000000; omega, ⟨Int.le_refl _, Int.natCast_nonneg _⟩, q.2⟩
  have yp : Nw.ent.pre [L, k, bn, b0, b1, b2, b3, b4, b5, b6, C, n, i + 1] := ⟨p1, p2, p3, p4, p5, p6, ⟨by show 0 <= i + 1; omega, by show i + 1 <= n; omega⟩, p8, p9⟩
  have ym : muO2 [L, k, bn, b0, b1, b2, b3, b4, b5, b6, C, n, i + 1] < muO2 [L, k, bn, b0, b1, b2, b3, b4, b5, b6, C, n, i] := by show (n - (i + 1)).toNat < (n - i).toNat; omega
  simp (disch := omega) only [ewZ, reduceCtorEq, seval, hSS, c, ef, eg, hf0, hg0, q1, wL, w0]
  exact ⟨⟨p7.1, by omega, by omega, y3⟩, yp, ym⟩
 ·simp (disch := omega) only [ewZ, reduceCtorEq, seval, hSS, c]
theorem okO35 : Af Tryd.prog G1 4 qO35 leO35 /\ PostOK leO35.ent T2o := by
 refine Ctx.OK.nil.loopJ (c := cN) mixed muO3 true ⟨_, _, _, Tryd.func4, rfl, rfl⟩ 14304 rfl rfl ?_
 go_invoke
 refine ⟨_, _, _, _, rfl, by kernel_rfl, ?_⟩
 intro L k hk bn hbn b0 b1 b2 b3 b4 b5 b6 C i hi n hn j hj hp φ hφ l hS hF ρ hρe hd
 simp only [eqL, Nat.reduceAdd] at hρe
 have hSS := Jj (Jj hS (Jj hρe hk)) (Jj (Jj hbn hi) (Jj hn hj))
 obtain ⟨p1, p2, p3, p4, p5, p6, p7, p8, p9, p10⟩ := hp
 replace p1 : Ac clK (dc C) := p1
 replace p2 : Ac clK (dc b5) := p2
 replace p7 : (dc C).length = (dc b5).length := p7
 replace p10 : Bx (dc C) (dc b5) (dc L).length k.toNat i.toNat := p10
 simp only [ewY, seval] at p3 p4 p5 p6 p8 p9
 subst p4
 refine ⟨?_, trivial⟩
 by_cases c : j < ((dc L).length : Int)
 ·have w0 : IntKind.i64.wrap (j + 1) = j + 1 := i64w (by omega) (by omega)
  have wL : IntKind.i64.wrap ((dc L).length : Int) = ((dc L).length : Int) := i64w (by omega) (by omega)
  obtain ⟨a1, a2, M, hM, m0, m1, m2⟩ := Fo p3 p5 ⟨p9.1, c⟩
  obtain ⟨f0, f1, f2, f3, f4, ef, hf0, hs⟩ := An p1 (show i.toNat < (dc C).length by omega)
  obtain ⟨g0, g1, g2, g3, g4, eg, hg0, hg⟩ := An p2 (show i.toNat < (dc b5).length by omega)
  have z1 := Bq hs p9.1 (show j < 256 by omega)
  have z2 := Br p9.1 (show j < 256 by omega)
  have y1 := Bq hg m0 (show M < 256 by omega)
  have y2 := Br m0 (show M < 256 by omega)
  have b : bitS [f1, f2, f3, f4] j.toNat = bitS [g1, g2, g3, g4] M.toNat := by
   have b := p10 j.toNat (by omega)
   rw [ef, eg] at b
   rw [m2, show ((dc L).length : Int).toNat = (dc L).length by omega]; exact b
  have yp : Nx.ent.pre [L, k, bn, b0, b1, b2, b3, b4, b5, b6, C, i, ((dc L).length : Int), j + 1] := ⟨p1, p2, p3, rfl, p5, p6, p7, p8, ⟨by show 0 <= j + 1; omega, by show j + 1 <= ((dc L).length : Int); omega⟩, p10⟩
  have ym : muO3 [L, k, bn, b0, b1, b2, b3, b4, b5, b6, C, i, ((dc L).length : Int), j + 1] < muO3 [L, k, bn, b0, b1, b2, b3, b4, b5, b6, C, i, ((dc L).length : Int), j] := by show (((dc L).length : Int) - (j + 1)).toNat < (((dc L).length : Int) - j).toNat; omega
  simp (disch := omega) only [ewZ, reduceCtorEq, seval, hSS, c, ef, eg, hf0, hg0, wL, w0, a1, a2, hM, z1, y1, b]
  exact ⟨⟨by omega, p6.1, p6.2, by omega, z2.1, z2.2.1, z2.2.2, by omega, y2.1, y2.2.1, y2.2.2⟩, yp, ym⟩
 ·simp (disch := omega) only [ewZ, reduceCtorEq, seval, hSS, c]
theorem SG : cO25.OK Tryd.prog G1 := Ctx.OK.addL (c := ⟨[], []⟩) Ctx.OK.nil okO35.1 rfl
theorem okO25 : Af Tryd.prog G1 4 pO25 leO25 /\ PostOK leO25.ent T2o := by
 refine SG.loopJ mixed muO2 true ⟨_, _, _, Tryd.func4, rfl, rfl⟩ 14204 rfl rfl ?_
 go_invoke
 refine ⟨_, _, _, _, rfl, by kernel_rfl, ?_⟩
 intro L k hk bn hbn b0 b1 b2 b3 b4 b5 b6 C n hn i hi hp φ hφ l hS hF ρ hρe hd
 have F14304 := hF 14304 leO35.ent rfl rfl
 simp only [eqL, Nat.reduceAdd] at hρe
 have hSS := Jj (Jj hS (Jj F14304 hρe)) (Jj (Jj hk hbn) (Jj hn hi))
 obtain ⟨p1, p2, p3, p4, p5, p6, p7, p8, p9⟩ := hp
 replace p1 : Ac clK (dc C) := p1
 replace p2 : Ac clK (dc b5) := p2
 replace p8 : (dc C).length = (dc b5).length := p8
 replace p9 : ∀ i, i < (dc C).length -> ((dc C).getD i []).getD 0 0 = ((dc b5).getD i []).getD 0 0 /\ Bx (dc C) (dc b5) (dc L).length k.toNat i := p9
 simp only [ewY, seval] at p3 p4 p5 p6 p7
 refine ⟨?_, trivial⟩
 by_cases c : i < n
 ·have w0 : IntKind.i64.wrap (i + 1) = i + 1 := i64w (by omega) (by omega)
  have wL : IntKind.i64.wrap ((dc L).length : Int) = ((dc L).length : Int) := i64w (by omega) (by omega)
  obtain ⟨f0, f1, f2, f3, f4, ef, hf0, hs⟩ := An p1 (show i.toNat < (dc C).length by omega)
  obtain ⟨g0, g1, g2, g3, g4, eg, hg0, hg⟩ := An p2 (show i.toNat < (dc b5).length by omega)
  have q := p9 i.toNat (by omega)
  have q1 := q.1
  rw [ef, eg] at q1
  replace q1 : f0 = g0 := q1
  have y3 : leO35.ent.pre [L, k, bn, b0, b1, b2, b3, b4, b5, b6, C, i, ((dc L).length : Int), 0] := ⟨p1, p2, p3, rfl, p4, ⟨p7.1, by show i < ((dc C).length : Int); omega⟩, p8, by show ((dc C).length : Int) <= 1000000; omega, ⟨Int.le_refl _, Int.natCast_nonneg _⟩, q.2⟩
  have yp : Ny.ent.pre [L, k, bn, b0, b1, b2, b3, b4, b5, b6, C, n, i + 1] := ⟨p1, p2, p3, p4, p5, p6, ⟨by show 0 <= i + 1; omega, by show i + 1 <= n; omega⟩, p8, p9⟩
  have ym : muO2 [L, k, bn, b0, b1, b2, b3, b4, b5, b6, C, n, i + 1] < muO2 [L, k, bn, b0, b1, b2, b3, b4, b5, b6, C, n, i] := by show (n - (i + 1)).toNat < (n - i).toNat; omega
  simp (disch := omega) only [ewZ, reduceCtorEq, seval, hSS, c, ef, eg, hf0, hg0, q1, wL, w0]
  exact ⟨⟨p7.1, by omega, by omega, y3⟩, yp, ym⟩
 ·simp (disch := omega) only [ewZ, reduceCtorEq, seval, hSS, c]
theorem okO36 : Af Tryd.prog G1 4 qO36 leO36 /\ PostOK leO36.ent T2o := by
 refine Ctx.OK.nil.loopJ (c := cN) mixed muO3 true ⟨_, _, _, Tryd.func4, rfl, rfl⟩ 15304 rfl rfl ?_
 go_invoke
 refine ⟨_, _, _, _, rfl, by kernel_rfl, ?_⟩
 intro L k hk bn hbn b0 b1 b2 b3 b4 b5 b6 C i hi n hn j hj hp φ hφ l hS hF ρ hρe hd
 simp only [eqL, Nat.reduceAdd] at hρe
 have hSS := Jj (Jj hS (Jj hρe hk)) (Jj (Jj hbn hi) (Jj hn hj))
 obtain ⟨p1, p2, p3, p4, p5, p6, p7, p8, p9, p10⟩ := hp
 replace p1 : Ac clK (dc C) := p1
 replace p2 : Ac clK (dc b6) := p2
 replace p7 : (dc C).length = (dc b6).length := p7
 replace p10 : Bx (dc C) (dc b6) (dc L).length k.toNat i.toNat := p10
 simp only [ewY, seval] at p3 p4 p5 p6 p8 p9
 subst p4
 refine ⟨?_, trivial⟩
 by_cases c : j < ((dc L).length : Int)
 ·have w0 : IntKind.i64.wrap (j + 1) = j + 1 := i64w (by omega) (by omega)
  have wL : IntKind.i64.wrap ((dc L).length : Int) = ((dc L).length : Int) := i64w (by omega) (by omega)
  obtain ⟨a1, a2, M, hM, m0, m1, m2⟩ := Fo p3 p5 ⟨p9.1, c⟩
  obtain ⟨f0, f1, f2, f3, f4, ef, hf0, hs⟩ := An p1 (show i.toNat < (dc C).length by omega)
  obtain ⟨g0, g1, g2, g3, g4, eg, hg0, hg⟩ := An p2 (show i.toNat < (dc b6).length by omega)
  have z1 := Bq hs p9.1 (show j < 256 by omega)
  have z2 := Br p9.1 (show j < 256 by omega)
  have y1 := Bq hg m0 (show M < 256 by omega)
  have y2 := Br m0 (show M < 256 by omega)
  have b : bitS [f1, f2, f3, f4] j.toNat = bitS [g1, g2, g3, g4] M.toNat := by
   have b := p10 j.toNat (by omega)
   rw [ef, eg] at b
   rw [m2, show ((dc L).length : Int).toNat = (dc L).length by omega]; exact b
  have yp : Nz.ent.pre [L, k, bn, b0, b1, b2, b3, b4, b5, b6, C, i, ((dc L).length : Int), j + 1] := ⟨p1, p2, p3, rfl, p5, p6, p7, p8, ⟨by show 0 <= j + 1; omega, by show j + 1 <= ((dc L).length : Int); omega⟩, p10⟩
  have ym : muO3 [L, k, bn, b0, b1, b2, b3, b4, b5, b6, C, i, ((dc L).length : Int), j + 1] < muO3 [L, k, bn, b0, b1, b2, b3, b4, b5, b6, C, i, ((dc L).length : Int), j] := by show (((dc L).length : Int) - (j + 1)).toNat < (((dc L).length : Int) - j).toNat; omega
  simp (disch := omega) only [ewZ, reduceCtorEq, seval, hSS, c, ef, eg, hf0, hg0, wL, w0, a1, a2, hM, z1, y1, b]
  exact ⟨⟨by omega, p6.1, p6.2, by omega, z2.1, z2.2.1, z2.2.2, by omega, y2.1, y2.2.1, y2.2.2⟩, yp, ym⟩
 ·simp (disch := omega) only [ewZ, reduceCtorEq, seval, hSS, c]
theorem SH : cO26.OK Tryd.prog G1 := Ctx.OK.addL (c := ⟨[], []⟩) Ctx.OK.nil okO36.1 rfl
theorem okO26 : Af Tryd.prog G1 4 pO26 leO26 /\ PostOK leO26.ent T2o := by
 refine SH.loopJ mixed muO2 true ⟨_, _, _, Tryd.func4, rfl, rfl⟩ 15204 rfl rfl ?_
 go_invoke
 refine ⟨_, _, _, _, rfl, by kernel_rfl, ?_⟩
 intro L k hk bn hbn b0 b1 b2 b3 b4 b5 b6 C n hn i hi hp φ hφ l hS hF ρ hρe hd
 have F15304 := hF 15304 leO36.ent rfl rfl
 simp only [eqL, Nat.reduceAdd] at hρe
 have hSS := Jj (Jj hS (Jj F15304 hρe)) (Jj (Jj hk hbn) (Jj hn hi))
 obtain ⟨p1, p2, p3, p4, p5, p6, p7, p8, p9⟩ := hp
 replace p1 : Ac clK (dc C) := p1
 replace p2 : Ac clK (dc b6) := p2
 replace p8 : (dc C).length = (dc b6).length := p8
 replace p9 : ∀ i, i < (dc C).length -> ((dc C).getD i []).getD 0 0 = ((dc b6).getD i []).getD 0 0 /\ Bx (dc C) (dc b6) (dc L).length k.toNat i := p9
 simp only [ewY, seval] at p3 p4 p5 p6 p7
 refine ⟨?_, trivial⟩
 by_cases c : i < n
 ·have w0 : IntKind.i64.wrap (i + 1) = i + 1 := i64w (by omega) (by omega)
  have wL : IntKind.i64.wrap ((dc L).length : Int) = ((dc L).length : Int) := i64w (by omega) (by omega)
  obtain ⟨f0, f1, f2, f3, f4, ef, hf0, hs⟩ := An p1 (show i.toNat < (dc C).length by omega)
  obtain ⟨g0, g1, g2, g3, g4, eg, hg0, hg⟩ := An p2 (show i.toNat < (dc b6).length by omega)
  have q := p9 i.toNat (by omega)
  have q1 := q.1
  rw [ef, eg] at q1
  replace q1 : f0 = g0 := q1
  have y3 : leO36.ent.pre [L, k, bn, b0, b1, b2, b3, b4, b5, b6, C, i, ((dc L).length : Int), 0] := ⟨p1, p2, p3, rfl, p4, ⟨p7.1, by show i < ((dc C).length : Int); omega⟩, p8, by show ((dc C).length : Int) <= 1000000; omega, ⟨Int.le_refl _, Int.natCast_nonneg _⟩, q.2⟩
  have yp : NA.ent.pre [L, k, bn, b0, b1, b2, b3, b4, b5, b6, C, n, i + 1] := ⟨p1, p2, p3, p4, p5, p6, ⟨by show 0 <= i + 1; omega, by show i + 1 <= n; omega⟩, p8, p9⟩
  have ym : muO2 [L, k, bn, b0, b1, b2, b3, b4, b5, b6, C, n, i + 1] < muO2 [L, k, bn, b0, b1, b2, b3, b4, b5, b6, C, n, i] := by show (n - (i + 1)).toNat < (n - i).toNat; omega
  simp (disch := omega) only [ewZ, reduceCtorEq, seval, hSS, c, ef, eg, hf0, hg0, q1, wL, w0]
  exact ⟨⟨p7.1, by omega, by omega, y3⟩, yp, ym⟩
 ·simp (disch := omega) only [ewZ, reduceCtorEq, seval, hSS, c]
end
end Go.Proofs.YtgpflpbldeflhaaDoor.Ew.Sr
set_option maxHeartbeats 8000000
namespace Go.Proofs.YtgpflpbldeflhaaDoor.Ew.Sr
open Go Go.RowKit
noncomputable section
def preL4 (xs : List Int) : Prop := Ac smK (dc (env xs 0)) /\ ((dc (env xs 0)).length : Int) <= 9223372036854775807
def c4 : Ctx := ⟨[e20, e21, e11], [(4, pO20, leO20), (4, pO21, leO21), (4, pO22, leO22), (4, pO23, leO23), (4, pO24, leO24), (4, pO25, leO25), (4, pO26, leO26)]⟩
def b4 : Ent := ⟨4, 4, [lsm, u8], [], [0], .lt .b 1, z0, preL4⟩
def e4 : Ent := b4.fw (fnG Tryd.prog G1 b4 T2o)
theorem c4ok : c4.OK Tryd.prog G1 := Ctx.OK.addF (c := ⟨[e21, e11], [(4, pO20, leO20), (4, pO21, leO21), (4, pO22, leO22), (4, pO23, leO23), (4, pO24, leO24), (4, pO25, leO25), (4, pO26, leO26)]⟩) (Ctx.OK.addF (c := ⟨[e11], [(4, pO20, leO20), (4, pO21, leO21), (4, pO22, leO22), (4, pO23, leO23), (4, pO24, leO24), (4, pO25, leO25), (4, pO26, leO26)]⟩) (Ctx.OK.addF (c := ⟨[], [(4, pO20, leO20), (4, pO21, leO21), (4, pO22, leO22), (4, pO23, leO23), (4, pO24, leO24), (4, pO25, leO25), (4, pO26, leO26)]⟩) (Ctx.OK.addL (c := ⟨[], [(4, pO21, leO21), (4, pO22, leO22), (4, pO23, leO23), (4, pO24, leO24), (4, pO25, leO25), (4, pO26, leO26)]⟩) (Ctx.OK.addL (c := ⟨[], [(4, pO22, leO22), (4, pO23, leO23), (4, pO24, leO24), (4, pO25, leO25), (4, pO26, leO26)]⟩) (Ctx.OK.addL (c := ⟨[], [(4, pO23, leO23), (4, pO24, leO24), (4, pO25, leO25), (4, pO26, leO26)]⟩) (Ctx.OK.addL (c := ⟨[], [(4, pO24, leO24), (4, pO25, leO25), (4, pO26, leO26)]⟩) (Ctx.OK.addL (c := ⟨[], [(4, pO25, leO25), (4, pO26, leO26)]⟩) (Ctx.OK.addL (c := ⟨[], [(4, pO26, leO26)]⟩) (Ctx.OK.addL (c := ⟨[], []⟩) Ctx.OK.nil okO26.1 rfl) okO25.1 rfl) okO24.1 rfl) okO23.1 rfl) okO22.1 rfl) okO21.1 rfl) okO20.1 rfl) (up ok11.1) rfl) (up ok21.1) rfl) ok20.1 rfl
theorem ok4 : EntryOK Tryd.prog G1 e4 /\ PostOK e4 T2o := by
 refine c4ok.nm.entryJ mixed true ?_
 go_invoke
 refine ⟨_, _, _, _, rfl, by kernel_rfl, ?_⟩
 intro L w hw hp l hF ρ hρe hd
 have F11 := hF 100000011 e11.nm rfl rfl
 have F20 := hF 100000020 e20.nm rfl rfl
 have F21 := hF 100000021 e21.nm rfl rfl
 have F9204 := hF 100009204 leO20.nm.ent rfl rfl
 have F10204 := hF 100010204 leO21.nm.ent rfl rfl
 have F11204 := hF 100011204 leO22.nm.ent rfl rfl
 have F12204 := hF 100012204 leO23.nm.ent rfl rfl
 have F13204 := hF 100013204 leO24.nm.ent rfl rfl
 have F14204 := hF 100014204 leO25.nm.ent rfl rfl
 have F15204 := hF 100015204 leO26.nm.ent rfl rfl
 simp only [eqL, Nat.reduceAdd] at hρe
 obtain ⟨⟨v1, hv1, hd1, hn1⟩, ⟨v2, hv2, hd2, hn2⟩⟩ := Jj (nmd hd 0 rfl) (nmd hd 1 rfl)
 obtain ⟨⟨v3, hv3, hd3, hn3⟩, ⟨v4, hv4, hd4, hn4⟩⟩ := Jj (nmd hd 2 rfl) (nmd hd 3 rfl)
 obtain ⟨⟨v5, hv5, hd5, hn5⟩, ⟨v6, hv6, hd6, hn6⟩⟩ := Jj (nmd hd 4 rfl) (nmd hd 5 rfl)
 obtain ⟨⟨v7, hv7, hd7, hn7⟩, ⟨v8, hv8, hd8, hn8⟩⟩ := Jj (nmd hd 6 rfl) (nmd hd 7 rfl)
 obtain ⟨⟨v9, hv9, hd9, hn9⟩, ⟨v10, hv10, hd10, hn10⟩⟩ := Jj (nmd hd 8 rfl) (nmd hd 9 rfl)
 obtain ⟨⟨v11, hv11, hd11, hn11⟩, ⟨v12, hv12, hd12, hn12⟩⟩ := Jj (nmd hd 10 rfl) (nmd hd 11 rfl)
 obtain ⟨⟨v13, hv13, hd13, hn13⟩, ⟨v14, hv14, hd14, hn14⟩⟩ := Jj (nmd hd 12 rfl) (nmd hd 13 rfl)
 obtain ⟨⟨v15, hv15, hd15, hn15⟩, ⟨v16, hv16, hd16, hn16⟩⟩ := Jj (nmd hd 14 rfl) (nmd hd 15 rfl)
 obtain ⟨v17, hv17, hd17, hn17⟩ := nmd hd 16 rfl
 simp only [Aq] at hn2 hn10
 have hSS := Jj (Jj (Jj (Jj F11 (Jj F20 F21)) (Jj (Jj F9204 F10204) (Jj F11204 F12204))) (Jj (Jj (Jj F13204 F14204) (Jj F15204 hρe)) (Jj (Jj hw hv1) (Jj hv2 hn2)))) (Jj (Jj (Jj (Jj hv3 hv4) (Jj hv5 hv6)) (Jj (Jj hv7 hv8) (Jj hv9 hv10))) (Jj (Jj (Jj hn10 hv11) (Jj hv12 hv13)) (Jj (Jj hv14 hv15) (Jj hv16 hv17))))
 simp (disch := omega) only [Aq, Ent.nm_fn, hSS, ewZ, reduceCtorEq, seval] at hd1 hd2 hd3 hd4 hd5 hd6 hd7 hd8 hd9 hd10 hd11 hd12 hd13 hd14 hd15 hd16 hd17
 obtain ⟨pL1, pL2⟩ := hp
 have y1 : e20.pre [L, 40] := ⟨pL1, pL2, by show (0 : Int) <= 40; decide, by show (40 : Int) <= 1000; decide⟩
 have R20 := (PostOK.use (os := [.x]) (vs := [v1]) ok20.2 rfl rfl ⟨hd1, trivial⟩) ⟨rfl, rfl, trivial⟩ y1
 replace R20 : okRu (dc v1) /\ ((dc v1).length : Int) <= 40 := R20
 obtain ⟨R20, len1⟩ := R20
 have hL1 : ruls (dc v1) := ⟨by omega, R20⟩
 have y11 : e11.pre [] := trivial
 have wN : IntKind.i64.wrap ((dc v1).length : Int) = ((dc v1).length : Int) := i64w (by omega) (by omega)
 refine ⟨?_, trivial⟩
 by_cases c : ((dc v1).length : Int) = 0
 ·simp (disch := omega) only [ewZ, reduceCtorEq, seval, hSS, wN, c]
  exact ⟨y1, y11⟩
 have g := u8r hw
 have ww : IntKind.i64.wrap w = w := i64w (by omega) (by omega)
 obtain ⟨J, hJ⟩ : ∃ J, IntKind.i64.wrap (w.tmod ((dc v1).length : Int)) = J := ⟨_, rfl⟩
 have hJb : 0 <= J /\ J < ((dc v1).length : Int) := by
  have h1 : 0 <= w % ((dc v1).length : Int) := Int.emod_nonneg _ (by omega)
  have h2 : w % ((dc v1).length : Int) < ((dc v1).length : Int) := Int.emod_lt_of_pos _ (by omega)
  rw [<- hJ, Int.tmod_eq_emod_of_nonneg g.1, i64w (z := w % ((dc v1).length : Int)) (by omega) (by omega)]
  exact ⟨h1, h2⟩
 simp (disch := omega) only [ww, wN, hJ, Int.toNat_natCast, List.take_length] at hd10 hd11 hd12 hd13 hd14 hd15 hd16 hd17
 obtain ⟨R, hR⟩ : ∃ R, cd (List.drop J.toNat (dc v1) ++ List.take J.toNat (dc v1)) = R := ⟨_, rfl⟩
 have dR : dc R = rotL (dc v1) J.toNat := by rw [<- hR, Ad]; rfl
 simp only [hR] at hd10 hd11 hd12 hd13 hd14 hd15 hd16 hd17
 have jn : J.toNat < (dc v1).length := by omega
 have hRL : ruls (dc R) := by
  rw [dR]
  exact ⟨by rw [GP (by omega)]; exact hL1.1, fun r hr => hL1.2 r ((Dw r).1 hr)⟩
 have y21 : e21.pre [v1] := ⟨fun r h => (R20 r h).1, fun r h => (R20 r h).2, by show ((dc v1).length : Int) <= 256; omega⟩
 have y21' : e21.pre [R] := ⟨fun r h => (hRL.2 r h).1, fun r h => (hRL.2 r h).2, by show ((dc R).length : Int) <= 256; have := hRL.1; omega⟩
 have T1 := (PostOK.use (os := [kJ, .x, .x, .x, .x, .x, .x, .x]) (vs := [v2, v3, v4, v5, v6, v7, v8, v9]) ok21.2 rfl rfl ⟨hd2, hd3, hd4, hd5, hd6, hd7, hd8, hd9, trivial⟩) ⟨rfl, trivial⟩ y21
 replace T1 : tabP (dc v1) [v2, v3, v4, v5, v6, v7, v8, v9] := T1
 have T2 := (PostOK.use (os := [kJ, .x, .x, .x, .x, .x, .x, .x]) (vs := [v10, v11, v12, v13, v14, v15, v16, v17]) ok21.2 rfl rfl ⟨hd10, hd11, hd12, hd13, hd14, hd15, hd16, hd17, trivial⟩) ⟨rfl, trivial⟩ y21'
 replace T2 : tabP (dc R) [v10, v11, v12, v13, v14, v15, v16, v17] := T2
 rw [dR] at T2
 have lR : ((dc R).length : Int) = ((dc v1).length : Int) := by rw [dR, GP (by omega)]
 have lR1 : ((dc v1).length : Int) <= 4398046511104 := by omega
 have lq : ((List.drop J.toNat (dc v1)).length : Int) <= 4398046511104 := by rw [List.length_drop]; omega
 have lq2 : ((List.drop J.toNat (dc v1) ++ List.take J.toNat (dc v1)).length : Int) <= 4398046511104 := by rw [List.length_append, List.length_drop, List.length_take]; omega
 have fld : ∀ (k : Nat) (hk : k <= 6) (C B : Int), (tabs [v2, v3, v4, v5, v6, v7, v8, v9]).getD k [] = dc C -> (tabs [v10, v11, v12, v13, v14, v15, v16, v17]).getD k [] = dc B -> ((dc C).length : Int) = ((dc B).length : Int) /\ ((dc B).length : Int) <= 1000000 /\ Ac clK (dc C) /\ Ac clK (dc B) /\ Rk (dc C) (dc B) (dc v1).length J.toNat := fun k hk C B eC eB => by
  have a := T1.at k (by omega)
  have b := T2.at k (by omega)
  rw [eC] at a
  rw [eB] at b
  have z := RU hk hL1 jn a b
  have fb := b.facts hk (by rw [<- dR]; exact hRL)
  exact ⟨by omega, by have := fb.2.2.2.2.1; omega, a.1, b.1, z⟩
 obtain ⟨a0, b0, c0, d0, t0⟩ := fld 0 (by decide) v3 v11 rfl rfl
 have m0 : leO20.ent.pre [v1, J, v10, v11, v12, v13, v14, v15, v16, v17, v3, ((dc v11).length : Int), 0] := ⟨c0, d0, hJb, by show ((dc v1).length : Int) <= 256; omega, a0.symm, b0, ⟨Int.le_refl _, Int.natCast_nonneg _⟩, t0⟩
 have w0 : IntKind.i64.wrap ((dc v11).length : Int) = ((dc v11).length : Int) := i64w (by omega) (by omega)
 obtain ⟨a1, b1, c1, d1, t1⟩ := fld 1 (by decide) v4 v12 rfl rfl
 have m1 : leO21.ent.pre [v1, J, v10, v11, v12, v13, v14, v15, v16, v17, v4, ((dc v12).length : Int), 0] := ⟨c1, d1, hJb, by show ((dc v1).length : Int) <= 256; omega, a1.symm, b1, ⟨Int.le_refl _, Int.natCast_nonneg _⟩, t1⟩
 have w1 : IntKind.i64.wrap ((dc v12).length : Int) = ((dc v12).length : Int) := i64w (by omega) (by omega)
 obtain ⟨a2, b2, c2, d2, t2⟩ := fld 2 (by decide) v5 v13 rfl rfl
 have m2 : leO22.ent.pre [v1, J, v10, v11, v12, v13, v14, v15, v16, v17, v5, ((dc v13).length : Int), 0] := ⟨c2, d2, hJb, by show ((dc v1).length : Int) <= 256; omega, a2.symm, b2, ⟨Int.le_refl _, Int.natCast_nonneg _⟩, t2⟩
 have w2 : IntKind.i64.wrap ((dc v13).length : Int) = ((dc v13).length : Int) := i64w (by omega) (by omega)
 obtain ⟨a3, b3, c3, d3, t3⟩ := fld 3 (by decide) v6 v14 rfl rfl
 have m3 : leO23.ent.pre [v1, J, v10, v11, v12, v13, v14, v15, v16, v17, v6, ((dc v14).length : Int), 0] := ⟨c3, d3, hJb, by show ((dc v1).length : Int) <= 256; omega, a3.symm, b3, ⟨Int.le_refl _, Int.natCast_nonneg _⟩, t3⟩
 have w3 : IntKind.i64.wrap ((dc v14).length : Int) = ((dc v14).length : Int) := i64w (by omega) (by omega)
 obtain ⟨a4, b4, c4, d4, t4⟩ := fld 4 (by decide) v7 v15 rfl rfl
 have m4 : leO24.ent.pre [v1, J, v10, v11, v12, v13, v14, v15, v16, v17, v7, ((dc v15).length : Int), 0] := ⟨c4, d4, hJb, by show ((dc v1).length : Int) <= 256; omega, a4.symm, b4, ⟨Int.le_refl _, Int.natCast_nonneg _⟩, t4⟩
 have w4 : IntKind.i64.wrap ((dc v15).length : Int) = ((dc v15).length : Int) := i64w (by omega) (by omega)
 obtain ⟨a5, b5, c5, d5, t5⟩ := fld 5 (by decide) v8 v16 rfl rfl
 have m5 : leO25.ent.pre [v1, J, v10, v11, v12, v13, v14, v15, v16, v17, v8, ((dc v16).length : Int), 0] := ⟨c5, d5, hJb, by show ((dc v1).length : Int) <= 256; omega, a5.symm, b5, ⟨Int.le_refl _, Int.natCast_nonneg _⟩, t5⟩
 have w5 : IntKind.i64.wrap ((dc v16).length : Int) = ((dc v16).length : Int) := i64w (by omega) (by omega)
 obtain ⟨a6, b6, c6, d6, t6⟩ := fld 6 (by decide) v9 v17 rfl rfl
 have m6 : leO26.ent.pre [v1, J, v10, v11, v12, v13, v14, v15, v16, v17, v9, ((dc v17).length : Int), 0] := ⟨c6, d6, hJb, by show ((dc v1).length : Int) <= 256; omega, a6.symm, b6, ⟨Int.le_refl _, Int.natCast_nonneg _⟩, t6⟩
 have w6 : IntKind.i64.wrap ((dc v17).length : Int) = ((dc v17).length : Int) := i64w (by omega) (by omega)
 simp (disch := omega) only [ewZ, reduceCtorEq, seval, hSS, wN, c, ww, hJ, Int.toNat_natCast, List.take_length, hR, a0, w0, a1, w1, a2, w2, a3, w3, a4, w4, a5, w5, a6, w6]
 exact ⟨y1, y21, hJb.1, Int.le_of_lt hJb.2, lq, hJb.1, by omega, y21', m0, ⟨m1, m2, m3, m4, m5, m6⟩, y11⟩
end
end Go.Proofs.YtgpflpbldeflhaaDoor.Ew.Sr
namespace Go.Proofs.YtgpflpbldeflhaaDoor
open Go
set_option maxRecDepth 100000
theorem QE : Tryd.prog.laidByTextLater [("baffle/bafflelaw26.full", Rows.laid_baffle_bafflelaw26_full), ("baffle/compile.lasts", Rows.laid_baffle_compile_lasts), ("baffle/compile.protocols", Rows.laid_baffle_compile_protocols)] [.data, .data, .widerDeep] true :=
 Program.laidByTextLater_by_one 24 8 8 (by kernel_rfl) (by kernel_rfl) (by kernel_rfl) (by kernel_rfl) (by kernel_rfl) (by kernel_rfl) (fun _ _ => by kernel_rfl)
theorem LA : Tryd.pinned.checked.prog.headLifts.contains "ownunsafe" = false := by kernel_rfl
theorem tie2 : Tryd.prog.laidByTextLater [("baffle/bafflelaw26.full", Rows.laid_baffle_bafflelaw26_full), ("baffle/compile.lasts", Rows.laid_baffle_compile_lasts), ("baffle/compile.protocols", Rows.laid_baffle_compile_protocols)] [.data, .data, .widerDeep] true :=
 Program.laidByTextLater.sub QE ["baffle/bafflelaw26.full", "baffle/compile.lasts", "baffle/compile.protocols"] (by kernel_rfl) (by kernel_rfl)
theorem Fp : Rows.compileOrderRow.laidByTextAt .later Tryd.pinned [.data, .data, .widerDeep] true :=
 OpenClaim.laidByTextAt_later rfl rfl tie2 LA
end Go.Proofs.YtgpflpbldeflhaaDoor
namespace Go.Proofs.YtgpflpbldeflhaaDoor
namespace Rows
def Ht : Claim7 := { stood := { row := compileOrderRow, standIns := [], harness := (true, "147a168b2cef69ca9cbcb93f052d9566e45e0c97b9ce6d0143d5b45d70c3c2bc"), looks := false }, kinds := [], alts := [], laidByText := true, laidKinds := [.data, .data, .widerDeep], laidTests := true, laidLooks := .later }
def CompileOrderCardSaid : Prop := Claim7.holds Tryd.pinned (.plain (OpenSpec.ofChange compileOrderSpec)) Ht
end Rows
end Go.Proofs.YtgpflpbldeflhaaDoor
