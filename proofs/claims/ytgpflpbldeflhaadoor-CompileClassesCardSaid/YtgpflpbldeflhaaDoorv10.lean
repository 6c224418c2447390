/- Texts that the claim needs, set narrow. -/
import Derived.Test.YtgpflpbldeflhaaDoorv9
import Derived.LaidByTextLater
import Derived.LaidSub
import Derived.LaidOnce
import GoSem.ClaimSeven
set_option linter.unusedVariables false
set_option linter.unusedSimpArgs false
set_option maxHeartbeats 8000000
namespace Go.Proofs.YtgpflpbldeflhaaDoor.Ew.Sr
open Go Go.RowKit
noncomputable section
def T2 (xs ys : List Int) : Prop := True
def p7b : List Bool := [true,true,true,true,false,true,false,false,true,true,false,false,true,true,true,true,false]
def p7c : List Bool := p7b ++ [false,true,true,false,false,true,true,true,true,false]
def JP (C L : RL) (i n : Nat) : Prop := (bitS ((C.getD i []).drop 1) n = inS (spF 5 (L.getD n [])) ((C.getD i []).getD 0 0)) /\ (0 < i -> bitS ((C.getD (i - 1) []).drop 1) n = inS (spF 5 (L.getD n [])) ((C.getD i []).getD 0 0 - 1))
def preT3 (xs : List Int) : Prop := Ad clK (dc (env xs 0)) /\ Ad ruK (dc (env xs 2)) /\ ((dc (env xs 2)).length : Int) <= 256 /\ 0 <= env xs 1 /\ env xs 1 < ((dc (env xs 0)).length : Int) /\ ((dc (env xs 0)).length : Int) <= 1000000 /\ env xs 3 = ((dc (env xs 2)).length : Int) /\ 0 <= env xs 4 /\ env xs 4 <= env xs 3 /\
 (0 < env xs 1 -> 1 <= ((dc (env xs 0)).getD (env xs 1).toNat []).getD 0 0) /\ ∀ n, n < (dc (env xs 2)).length -> JP (dc (env xs 0)) (dc (env xs 2)) (env xs 1).toNat n
def muT3 (xs : List Int) : Nat := (env xs 3 - env xs 4).toNat
def lbT3 : LEnt := ⟨⟨9307, 999999, [lcl, i64, lru, i64, i64], [], [0, 1], .tup [], z0, preT3⟩, [7, 10, 132, 133, 134], [], [2, 11, 12, 13, 14] ++ (List.range 95).map (· + 134), [.ex 4], 232, []⟩
def leT3 : LEnt := lbT3.fw (fnM Tryd.prog G0 7 p7c lbT3 T2)
def JQ (k m : Int) (C L : RL) : Prop := ∀ i, i < C.length -> (C.getD i []).getD 0 0 <= m /\ 0 <= (C.getD i []).getD 0 0 /\ (0 < i -> (C.getD (i - 1) []).getD 0 0 < (C.getD i []).getD 0 0 /\ (C.getD (i - 1) []).drop 1 ≠ (C.getD i []).drop 1) /\ (k = 5 -> ∀ n, n < L.length -> JP C L i n)
def preT2 (xs : List Int) : Prop := Ad clK (dc (env xs 2)) /\ Ad ruK (dc (env xs 0)) /\ ((dc (env xs 0)).length : Int) <= 256 /\ ((dc (env xs 2)).length : Int) <= 1000000 /\ env xs 4 = ((dc (env xs 2)).length : Int) /\ 0 <= env xs 5 /\ env xs 5 <= env xs 4 /\ JQ (env xs 1) (env xs 3) (dc (env xs 2)) (dc (env xs 0))
def muT2 (xs : List Int) : Nat := (env xs 4 - env xs 5).toNat
def cT3 : Ctx := ⟨[], [(7, p7c, leT3)]⟩
def lbT2 : LEnt := ⟨⟨9207, 999999, [lru, i64, lcl, u32, i64, i64], [], [0, 1], .tup [], z0, preT2⟩, [3, 6, 7, 8, 87, 88], [], [2] ++ (List.range 5).map (· + 10) ++ (List.range 142).map (· + 88), [.ex 2], 232, [3, 7]⟩
def leT2 : LEnt := lbT2.fw (fnM Tryd.prog G0 7 p7b lbT2 T2)
def c7 : Ctx := ⟨[e20, e21, e28, e11], [(7, p7b, leT2)]⟩
def b7 : Ent := ⟨7, 7, [lsm], [], [0], .lt .b 1, z0, preL⟩
def e7 : Ent := b7.fw (fnG Tryd.prog G0 b7 T2)
theorem okT3 : Al Tryd.prog G0 7 p7c leT3 /\ PostOK leT3.ent T2 := by
 refine Ctx.OK.nil.loopJ mixed muT3 true ⟨_, _, _, Tryd.func7, rfl, rfl⟩ 9307 rfl rfl ?_
 go_invoke
 refine ⟨_, _, _, _, rfl, by kernel_rfl, ?_⟩
 intro C i hi L n hn j hj hp φ hφ l hS hF ρ hρe hd
 simp only [eqL, Nat.reduceAdd] at hρe
 have hSS := Jj (Jj hS hρe) (Jj hi (Jj hn hj))
 obtain ⟨p1, p2, p3, p4, p5, p6, p7, p8, p9, p10, p11⟩ := hp
 replace p1 : Ad clK (dc C) := p1
 replace p2 : Ad ruK (dc L) := p2
 replace p10 : 0 < i -> 1 <= ((dc C).getD i.toNat []).getD 0 0 := p10
 replace p11 : ∀ n, n < (dc L).length -> JP (dc C) (dc L) i.toNat n := p11
 simp only [ewY, seval] at p3 p4 p5 p6 p7 p8 p9
 by_cases c : j < n
 ·have w0 : IntKind.i64.wrap (j + 1) = j + 1 := i64w (by omega) (by omega)
  have yp : lbT3.ent.pre [C, i, L, n, j + 1] := ⟨p1, p2, p3, p4, p5, p6, p7, by show 0 <= j + 1; omega, by show j + 1 <= n; omega, p10, p11⟩
  have ym : muT3 [C, i, L, n, j + 1] < muT3 [C, i, L, n, j] := by show (n - (j + 1)).toNat < (n - j).toNat; omega
  obtain ⟨f0, f1, f2, f3, f4, ef, hf0, hs⟩ := Bw p1 (show i.toNat < (dc C).length by omega)
  obtain ⟨r, er, hr, hm, hdr⟩ := Bv p2 p8 (by omega : j < ((dc L).length : Int))
  obtain ⟨s0, h0, s1, h1, s2, h2, s3, h3, s4, h4, s5, h5, s6, h6, s7, h7, s8, h8, s9, h9, sa, ha, sb, hb, sc, hc, rfl⟩ := Ky hr
  simp only [Ao] at ha hb
  have b := p11 j.toNat (by omega)
  unfold JP at b
  rw [ef, er] at b
  have z1 := PG hs p8 (by omega)
  have z2 := Sb p8 (show j < 256 by omega)
  have b1 : bitS [f1, f2, f3, f4] j.toNat = (decide (sa <= f0) && decide (f0 <= sb)) := by rw [<- Bool.or_false (decide (sa <= f0) && decide (f0 <= sb))]; exact b.1
  have wa : IntKind.u32.wrap sa = sa := by have := u16r ha; exact u32w (by omega) (by omega)
  have wb : IntKind.u32.wrap sb = sb := by have := u16r hb; exact u32w (by omega) (by omega)
  refine ⟨?_, trivial⟩
  by_cases c0 : 0 < i
  ·obtain ⟨g0, g1, g2, g3, g4, eg, hg0, hg⟩ := Bw p1 (show i.toNat - 1 < (dc C).length by omega)
   have y := b.2 (by omega)
   rw [eg] at y
   rw [show i.toNat - 1 = (i - 1).toNat by omega] at eg
   have y1 : bitS [g1, g2, g3, g4] j.toNat = (decide (sa <= f0 - 1) && decide (f0 - 1 <= sb)) := by rw [<- Bool.or_false (decide (sa <= f0 - 1) && decide (f0 - 1 <= sb))]; exact y
   have y2 := PG hg p8 (show j < 256 by omega)
   have q := p10 c0
   rw [ef] at q
   replace q : 1 <= f0 := q
   have q1 : 0 < f0 := q
   have q2 : IntKind.u32.wrap (f0 - 1) = f0 - 1 := by have := u32r hf0; exact u32w (by omega) (by omega)
   simp (disch := omega) only [ewZ, reduceCtorEq, seval, hSS, c, ef, er, eg, hf0, ha, hb, wa, wb, z1, b1, L8, c0, y1, y2, q1, q2, w0]
   exact ⟨⟨by omega, by omega, by omega, by omega, by omega, z2.1, z2.2.1, z2.2.2, ⟨by omega, by omega⟩, ⟨by omega, by omega⟩, by omega, by omega, by omega⟩, fun _ => ⟨yp, ym⟩, rfl⟩
  ·simp (disch := omega) only [ewZ, reduceCtorEq, seval, hSS, c, ef, er, hf0, ha, hb, wa, wb, z1, b1, L8, c0, w0]
   exact ⟨⟨by omega, by omega, by omega, by omega, by omega, z2.1, z2.2.1, z2.2.2⟩, yp, ym⟩
 ·refine ⟨?_, trivial⟩
  simp (disch := omega) only [ewZ, reduceCtorEq, seval, hSS, c]
theorem cT3ok : cT3.OK Tryd.prog G0 := Ctx.OK.addL (c := ⟨[], []⟩) Ctx.OK.nil okT3.1 rfl
theorem okT2 : Al Tryd.prog G0 7 p7b leT2 /\ PostOK leT2.ent T2 := by
 refine cT3ok.loopJ mixed muT2 true ⟨_, _, _, Tryd.func7, rfl, rfl⟩ 9207 rfl rfl ?_
 go_invoke
 refine ⟨_, _, _, _, rfl, by kernel_rfl, ?_⟩
 intro L k hk C m hm n hn i hi hp φ hφ l hS hF ρ hρe hd
 have F9307 := hF 9307 leT3.ent rfl rfl
 simp only [eqL, Nat.reduceAdd] at hρe
 have hSS := Jj (Jj hS (Jj F9307 hρe)) (Jj (Jj hk hm) (Jj hn hi))
 obtain ⟨p1, p2, p3, p4, p5, p6, p7, p8⟩ := hp
 replace p1 : Ad clK (dc C) := p1
 replace p2 : Ad ruK (dc L) := p2
 replace p8 : JQ k m (dc C) (dc L) := p8
 simp only [ewY, seval] at p3 p4 p5 p6 p7
 have p8' := p8
 unfold JQ at p8'
 by_cases c : i < n
 ·have w0 : IntKind.i64.wrap (i + 1) = i + 1 := i64w (by omega) (by omega)
  have wL : IntKind.i64.wrap ((dc L).length : Int) = ((dc L).length : Int) := i64w (by omega) (by omega)
  have yp : lbT2.ent.pre [L, k, C, m, n, i + 1] := ⟨p1, p2, p3, p4, p5, by show 0 <= i + 1; omega, by show i + 1 <= n; omega, p8⟩
  have ym : muT2 [L, k, C, m, n, i + 1] < muT2 [L, k, C, m, n, i] := by show (n - (i + 1)).toNat < (n - i).toNat; omega
  obtain ⟨a1, a2, a3, a4⟩ := p8' i.toNat (by omega)
  have y3 : k = 5 -> lbT3.ent.pre [C, i, L, ((dc L).length : Int), 0] := fun e => ⟨p1, p2, p3, p6, by show i < ((dc C).length : Int); omega, p4, rfl, Int.le_refl _, Int.natCast_nonneg _, fun h => by
   have := (a3 (by replace h : 0 < i := h; omega)).1
   have := (p8' (i.toNat - 1) (by omega)).2.1
   show 1 <= ((dc C).getD i.toNat []).getD 0 0
   omega, a4 e⟩
  obtain ⟨f0, f1, f2, f3, f4, ef, hf0, hs⟩ := Bw p1 (show i.toNat < (dc C).length by omega)
  have hx : ∀ x ∈ [f1, f2, f3, f4], IntKind.u64.wrap x = x := hs.2
  rw [ef] at a1 a2 a3
  replace a1 : ¬ f0 > m := by have : f0 <= m := a1; omega
  refine ⟨?_, trivial⟩
  by_cases c0 : 0 < i
  ·obtain ⟨g0, g1, g2, g3, g4, eg, hg0, hg⟩ := Bw p1 (show i.toNat - 1 < (dc C).length by omega)
   have hy : ∀ x ∈ [g1, g2, g3, g4], IntKind.u64.wrap x = x := hg.2
   have a5 := a3 (by omega)
   rw [eg] at a5
   rw [show i.toNat - 1 = (i - 1).toNat by omega] at eg
   have a6 : ¬ f0 <= g0 := by have : g0 < f0 := a5.1; omega
   have a7 : f1 = g1 -> f2 = g2 -> f3 = g3 -> ¬ f4 = g4 := fun h1 h2 h3 h4 => a5.2 (by rw [h1, h2, h3, h4]; rfl)
   have w1 : IntKind.i64.wrap (i - 1) = i - 1 := i64w (by omega) (by omega)
   have e8 := Jj (Jj (hx f1 (by simp)) (Jj (hx f2 (by simp)) (Jj (hx f3 (by simp)) (hx f4 (by simp))))) (Jj (hy g1 (by simp)) (Jj (hy g2 (by simp)) (Jj (hy g3 (by simp)) (hy g4 (by simp)))))
   by_cases c5 : k = 5
   ·subst c5
    simp (disch := omega) only [ewZ, reduceCtorEq, seval, hSS, c, ef, eg, hf0, hg0, a1, a6, c0, w0, w1, wL, e8]
    exact ⟨⟨by omega, by omega, ⟨by omega, by omega⟩, ⟨by omega, by omega⟩, fun _ => y3 rfl⟩, fun _ => ⟨yp, ym⟩, a7⟩
   ·simp (disch := omega) only [ewZ, reduceCtorEq, seval, hSS, c, ef, eg, hf0, hg0, a1, a6, c0, w0, w1, c5, wL, e8]
    exact ⟨⟨by omega, by omega, ⟨by omega, by omega⟩, by omega, by omega⟩, fun _ => ⟨yp, ym⟩, a7⟩
  ·by_cases c5 : k = 5
   ·subst c5
    simp (disch := omega) only [ewZ, reduceCtorEq, seval, hSS, c, ef, hf0, a1, c0, w0, wL]
    exact ⟨⟨by omega, by omega, y3 rfl⟩, yp, ym⟩
   ·simp (disch := omega) only [ewZ, reduceCtorEq, seval, hSS, c, ef, hf0, a1, c0, w0, c5, wL]
    exact ⟨⟨by omega, by omega⟩, yp, ym⟩
 ·refine ⟨?_, trivial⟩
  simp (disch := omega) only [ewZ, reduceCtorEq, seval, hSS, c]
theorem c7ok : c7.OK Tryd.prog G0 := Ctx.OK.addF (c := ⟨[e21, e28, e11], [(7, p7b, leT2)]⟩) (Ctx.OK.addF (c := ⟨[e28, e11], [(7, p7b, leT2)]⟩) (Ctx.OK.addF (c := ⟨[e11], [(7, p7b, leT2)]⟩) (Ctx.OK.addF (c := ⟨[], [(7, p7b, leT2)]⟩) (Ctx.OK.addL (c := ⟨[], []⟩) Ctx.OK.nil okT2.1 rfl) ok11.1 rfl) ok28.1 rfl) ok21.1 rfl) ok20.1 rfl
theorem Sc {k : Nat} (hk : k <= 6) {L R : RL} (hL : ruls L) (h : clsP k L R) : JQ k (lstF k) R L := fun i hi => by
 obtain ⟨_, _, _, h4⟩ := L7 hk hL h
 obtain ⟨b1, b2, b3, b4⟩ := h4 i hi
 refine ⟨b2, b1, b3, fun e n hn => ?_⟩
 have e : k = 5 := by omega
 subst e
 exact b4 n hn
theorem ok7 : EntryOK Tryd.prog G0 e7 /\ PostOK e7 T2 := by
 refine c7ok.nm.entryJ mixed true ?_
 go_invoke
 refine ⟨_, _, _, _, rfl, by kernel_rfl, ?_⟩
 intro L hp l hF ρ hρe hd
 have F11 := hF 100000011 e11.nm rfl rfl
 have F20 := hF 100000020 e20.nm rfl rfl
 have F21 := hF 100000021 e21.nm rfl rfl
 have F28 := hF 100000028 e28.nm rfl rfl
 have F9207 := hF 100009207 leT2.nm.ent rfl rfl
 simp only [eqL, Nat.reduceAdd] at hρe
 obtain ⟨⟨v1, hv1, hd1, hn1⟩, ⟨v2, hv2, hd2, hn2⟩⟩ := Jj (nmd hd 0 rfl) (nmd hd 1 rfl)
 obtain ⟨⟨v3, hv3, hd3, hn3⟩, ⟨v4, hv4, hd4, hn4⟩⟩ := Jj (nmd hd 2 rfl) (nmd hd 3 rfl)
 obtain ⟨⟨v5, hv5, hd5, hn5⟩, ⟨v6, hv6, hd6, hn6⟩⟩ := Jj (nmd hd 4 rfl) (nmd hd 5 rfl)
 obtain ⟨⟨v7, hv7, hd7, hn7⟩, ⟨v8, hv8, hd8, hn8⟩⟩ := Jj (nmd hd 6 rfl) (nmd hd 7 rfl)
 obtain ⟨⟨v9, hv9, hd9, hn9⟩, ⟨v10, hv10, hd10, hn10⟩⟩ := Jj (nmd hd 8 rfl) (nmd hd 9 rfl)
 simp only [Ao] at hn2 hn10
 have hSS := Jj (Jj (Jj (Jj F11 F20) (Jj F21 F28)) (Jj (Jj F9207 hρe) (Jj hv1 (Jj hv2 hn2)))) (Jj (Jj (Jj hv3 hv4) (Jj hv5 hv6)) (Jj (Jj hv7 hv8) (Jj hv9 (Jj hv10 hn10))))
 simp (disch := omega) only [Ao, Ent.nm_fn, hSS, ewZ, reduceCtorEq, seval] at hd1 hd2 hd3 hd4 hd5 hd6 hd7 hd8 hd9 hd10
 obtain ⟨pL1, pL2⟩ := hp
 have y1 : e20.pre [L, 40] := ⟨pL1, pL2, by show (0 : Int) <= 40; decide, by show (40 : Int) <= 1000; decide⟩
 have R20 := (PostOK.use (os := [.x]) (vs := [v1]) ok20.2 rfl rfl ⟨hd1, trivial⟩) ⟨rfl, rfl, trivial⟩ y1
 replace R20 : okRu (dc v1) /\ ((dc v1).length : Int) <= 40 := R20
 obtain ⟨R20, len1⟩ := R20
 have hL1 : ruls (dc v1) := ⟨by omega, R20⟩
 have y21 : e21.pre [v1] := ⟨fun r h => (R20 r h).1, fun r h => (R20 r h).2, by show ((dc v1).length : Int) <= 256; omega⟩
 have T1 := (PostOK.use (os := [kJ, .x, .x, .x, .x, .x, .x, .x]) (vs := [v2, v3, v4, v5, v6, v7, v8, v9]) ok21.2 rfl rfl ⟨hd2, hd3, hd4, hd5, hd6, hd7, hd8, hd9, trivial⟩) ⟨rfl, trivial⟩ y21
 replace T1 : tabP (dc v1) [v2, v3, v4, v5, v6, v7, v8, v9] := T1
 have yr : Ad ruK (dc v1) := fun r h => (R20 r h).1
 have g : ∀ k (hk : k <= 6) (c : Int), (tabs [v2, v3, v4, v5, v6, v7, v8, v9]).getD k [] = dc c -> ¬ ((dc c).length : Int) = 0 /\ IntKind.u32.wrap (((dc c).getD 0 []).getD 0 0) = 0 /\ ((dc c).length : Int) <= lstF k + 1 /\ (2 <= k /\ k <= 5 -> ((dc c).length : Int) <= 1 + 2 * ((dc v1).length : Int)) /\ ((dc c).length : Int) <= 1000000 /\ (((dc c).length : Int) <= 1000000 -> leT2.ent.pre [v1, k, c, lstF k, ((dc c).length : Int), 0]) := fun k hk c e => by
  have h := T1.at k (by omega)
  rw [e] at h
  obtain ⟨h1, h2, h3, h4⟩ := L7 hk hL1 h
  have h5 := (h.facts hk hL1).2.1
  have h6 := (h.facts hk hL1).2.2.2.2.1
  refine ⟨by omega, by rw [h2]; rfl, h3, fun q => by have := Rw h q; omega, by omega, fun q => ⟨h5, yr, by show ((dc v1).length : Int) <= 256; omega, q, rfl, Int.le_refl _, Int.natCast_nonneg _, Sc hk hL1 h⟩⟩
 have g0 := g 0 (by decide) v3 rfl
 have g1 := g 1 (by decide) v4 rfl
 have g2 := g 2 (by decide) v5 rfl
 have g3 := g 3 (by decide) v6 rfl
 have g4 := g 4 (by decide) v7 rfl
 have g5 := g 5 (by decide) v8 rfl
 have g6 := g 6 (by decide) v9 rfl
 have y28 : e28.pre [v2, v3, v4, v5, v6, v7, v8, v9] := by
  show lenS [v3, v4, v5, v6, v7, v8, v9]
  intro c hc
  simp only [List.mem_cons, List.not_mem_nil, or_false] at hc
  rcases hc with rfl | rfl | rfl | rfl | rfl | rfl | rfl
  ·exact g0.2.2.2.2.1
  ·exact g1.2.2.2.2.1
  ·exact g2.2.2.2.2.1
  ·exact g3.2.2.2.2.1
  ·exact g4.2.2.2.2.1
  ·exact g5.2.2.2.2.1
  ·exact g6.2.2.2.2.1
 have Z := (PostOK.use (os := [kJ]) (vs := [v10]) ok28.2 rfl rfl ⟨hd10, trivial⟩) ⟨hn2, rfl, rfl, rfl, rfl, rfl, rfl, rfl, trivial⟩ y28
 replace Z : v10 = (dc v3).length + (dc v4).length + (dc v5).length + (dc v6).length + (dc v7).length + (dc v8).length + (dc v9).length := Z
 obtain rfl : v2 = ((dc v1).length : Int) := T1.1
 have s0 : ((dc v3).length : Int) <= 2 := g0.2.2.1
 have s1 : ((dc v4).length : Int) <= 3 := g1.2.2.1
 have s6 : ((dc v9).length : Int) <= 64 := g6.2.2.1
 have s2 : ((dc v5).length : Int) <= 2 * ((dc v1).length : Int) + 1 := by have := g2.2.2.2.1 (by decide); omega
 have s3 : ((dc v6).length : Int) <= 2 * ((dc v1).length : Int) + 1 := by have := g3.2.2.2.1 (by decide); omega
 have s4 : ((dc v7).length : Int) <= 2 * ((dc v1).length : Int) + 1 := by have := g4.2.2.2.1 (by decide); omega
 have s5 : ((dc v8).length : Int) <= 2 * ((dc v1).length : Int) + 1 := by have := g5.2.2.2.1 (by decide); omega
 have t0 : 0 < ((dc v3).length : Int) := by have := g0.1; omega
 have t1 : 0 < ((dc v4).length : Int) := by have := g1.1; omega
 have t2 : 0 < ((dc v5).length : Int) := by have := g2.1; omega
 have t3 : 0 < ((dc v6).length : Int) := by have := g3.1; omega
 have t4 : 0 < ((dc v7).length : Int) := by have := g4.1; omega
 have t5 : 0 < ((dc v8).length : Int) := by have := g5.1; omega
 have t6 : 0 < ((dc v9).length : Int) := by have := g6.1; omega
 have hz : v10 <= 4 * (2 * ((dc v1).length : Int) + 1) + 2 + 3 + 64 := by omega
 refine ⟨?_, trivial⟩
 simp (disch := omega) only [ewZ, reduceCtorEq, seval, hSS, hz, g0.1, g0.2.1, t0, g1.1, g1.2.1, t1, g2.1, g2.2.1, t2, g3.1, g3.2.1, t3, g4.1, g4.2.1, t4, g5.1, g5.2.1, t5, g6.1, g6.2.1, t6, s2, s3, s4, s5]
 exact ⟨y1, y21, y28, g0.2.2.2.2.2 g0.2.2.2.2.1, ⟨g1.2.2.2.2.2 g1.2.2.2.2.1, g2.2.2.2.2.2 g2.2.2.2.2.1, g3.2.2.2.2.2 g3.2.2.2.2.1, g4.2.2.2.2.2 g4.2.2.2.2.1, g5.2.2.2.2.2 g5.2.2.2.2.1, g6.2.2.2.2.2 g6.2.2.2.2.1⟩, trivial⟩
end
end Go.Proofs.YtgpflpbldeflhaaDoor.Ew.Sr
namespace Go.Proofs.YtgpflpbldeflhaaDoor
open Go
set_option maxRecDepth 100000
theorem Qk : Tryd.prog.laidByTextLater [("baffle/bafflelaw26.full", Rows.laid_baffle_bafflelaw26_full), ("baffle/compile.lasts", Rows.laid_baffle_compile_lasts), ("baffle/compile.protocols", Rows.laid_baffle_compile_protocols)] [.data, .data, .widerDeep] true :=
 Program.laidByTextLater_by_one 24 8 8 (by kernel_rfl) (by kernel_rfl) (by kernel_rfl) (by kernel_rfl) (by kernel_rfl) (by kernel_rfl) (fun _ _ => by kernel_rfl)
theorem Lq : Tryd.pinned.checked.prog.headLifts.contains "ownunsafe" = false := by kernel_rfl
theorem tie2 : Tryd.prog.laidByTextLater [("baffle/bafflelaw26.full", Rows.laid_baffle_bafflelaw26_full), ("baffle/compile.lasts", Rows.laid_baffle_compile_lasts), ("baffle/compile.protocols", Rows.laid_baffle_compile_protocols)] [.data, .data, .widerDeep] true :=
 Program.laidByTextLater.sub Qk ["baffle/bafflelaw26.full", "baffle/compile.lasts", "baffle/compile.protocols"] (by kernel_rfl) (by kernel_rfl)
theorem Ek : Rows.compileClassesRow.laidByTextAt .later Tryd.pinned [.data, .data, .widerDeep] true :=
 OpenClaim.laidByTextAt_later rfl rfl tie2 Lq
end Go.Proofs.YtgpflpbldeflhaaDoor
namespace Go.Proofs.YtgpflpbldeflhaaDoor
namespace Rows
def Ge : Claim7 := { stood := { row := compileClassesRow, standIns := [], harness := (true, "147a168b2cef69ca9cbcb93f052d9566e45e0c97b9ce6d0143d5b45d70c3c2bc"), looks := false }, kinds := [], alts := [], laidByText := true, laidKinds := [.data, .data, .widerDeep], laidTests := true, laidLooks := .later }
def CompileClassesCardSaid : Prop := Claim7.holds Tryd.pinned (.plain (OpenSpec.ofChange compileClassesSpec)) Ge
end Rows
end Go.Proofs.YtgpflpbldeflhaaDoor
