/- Texts that the claim needs, set narrow. -/
import Derived.Test.YtgpflpbldeflhaaDoory9
set_option linter.unusedVariables false
set_option linter.unusedSimpArgs false
set_option maxHeartbeats 8000000
namespace Go.Proofs.YtgpflpbldeflhaaDoor.Ew.Sr
open Go Go.RowKit
noncomputable section
def pAb : List Bool := [true,true,true,true,false,true,false]
def pAd : List Bool := pAb ++ [false,true,false,false,true,false,true,false,false,true,false,false,true,true,true,false]
def holB (C : RL) (v : Int) (j : Nat) : Bool := decide ((C.getD j []).getD 0 0 <= v) && (decide (j + 1 = C.length) || decide (v < (C.getD (j + 1) []).getD 0 0))
def claB (C : RL) (v : Int) (k i : Nat) : Bool := ((List.range C.length).drop i).all fun j => !holB C v j || bitS ((C.getD j []).drop 1) k
def preAd (xs : List Int) : Prop := rowsOK clK (dc (env xs 3)) /\ ((dc (env xs 3)).length : Int) <= 1000000 /\ (0 <= env xs 0 /\ env xs 0 < 256) /\ 0 <= env xs 4 /\ env xs 4 <= ((dc (env xs 3)).length : Int)
def Qa (xs ys : List Int) : Prop := env ys 0 = b2i (i2b (env xs 1) && claB (dc (env xs 3)) (env xs 2) (env xs 0).toNat (env xs 4).toNat)
def muAd (xs : List Int) : Nat := (((dc (env xs 3)).length : Int) - env xs 4).toNat
def lbAd : LEnt := ⟨⟨9314, 999999, [i64, .sc .b, u32, lrc, i64], [], [0], .tup [.sc .b], z0, preAd⟩, [11, 12, 14, 16, 17], [12], [17] ++ (List.range 46).map (· + 50), [.ex 4], 102, []⟩
def leAd : LEnt := lbAd.fw (fnM Tryd.prog G0 14 pAd lbAd Qa)
def cAb : Ctx := ⟨[], [(14, pAd, leAd)]⟩
def bxF : Sh := .obj 31 (facK.map .sc)
def okT (xs : List Int) : Prop := ∀ k : Nat, k < 7 -> rowsOK clK (dc (env xs (k + 1))) /\ ((dc (env xs (k + 1))).length : Int) <= 1000000
def claA (T : List RL) (s : Int) (f : List Int) (i : Nat) : Bool := (List.range 7).all fun k => claB (T.getD k []) (valF k s f) i 0
def preAb (xs : List Int) : Prop := pktP (env xs 0) ((xs.drop 9).take 19) /\ okT ((xs.drop 1).take 8) /\ env xs 1 <= 256 /\ 0 <= env xs 29 /\ env xs 29 <= env xs 1 /\ ((dc (env xs 28)).length : Int) <= env xs 29
def Qb (xs ys : List Int) : Prop := dc (env ys 0) = dc (env xs 28) ++ Aq (((List.range (env xs 1).toNat).drop (env xs 29).toNat).filter (claA (tabs ((xs.drop 1).take 8)) (env xs 0) ((xs.drop 9).take 19)))
def muAb (xs : List Int) : Nat := (env xs 1 - env xs 29).toNat
def lbAb : LEnt := ⟨⟨9114, 999999, [u8, rtbx, bxF, lnt, i64], [], List.range 9, .tup [lnt], z0, preAb⟩, [1, 3, 5, 10, 11], [10], (List.range 7).map (· + 11) ++ (List.range 72).map (· + 29), [.ex 0], 102, []⟩
def leAb : LEnt := lbAb.fw (fnM Tryd.prog G0 14 pAb lbAb Qb)
def c14 : Ctx := ⟨[e17], [(14, pAb, leAb)]⟩
def pre14 (xs : List Int) : Prop := okT (xs.take 8)
def KO (xs ys : List Int) : Prop := (¬ tabR (xs.take 8) /\ dc (env ys 0) = [] /\ env ys 1 = 280) \/ (tabR (xs.take 8) /\ ¬ pktP (env xs 8) (xs.drop 9) /\ dc (env ys 0) = [] /\ env ys 1 = 261) \/
 (tabR (xs.take 8) /\ pktP (env xs 8) (xs.drop 9) /\ dc (env ys 0) = Aq (allF (env xs 0).toNat (tabs (xs.take 8)) (env xs 8) (xs.drop 9)) /\ env ys 1 = 0)
def b14 : Ent := ⟨14, 14, [rtab, u8, fa], [], [0, 1, 2, 3, 4, 5, 6], .tup [lnt, i64], z0, pre14⟩
def e14 : Ent := b14.fw (fnG Tryd.prog G0 b14 KO)
theorem Qc {C : RL} {v : Int} {k i : Nat} (h : i < C.length) : claB C v k i = ((!holB C v i || bitS ((C.getD i []).drop 1) k) && claB C v k (i + 1)) := by
 unfold claB
 rw [List.drop_eq_getElem_cons (by rw [List.length_range]; exact h), List.getElem_range]; rfl
theorem Rf {C : RL} {v : Int} {k i : Nat} (h : C.length <= i) : claB C v k i = true := by
 unfold claB; rw [List.drop_eq_nil_of_le (by rw [List.length_range]; exact h)]; rfl
theorem KP {m : Int} {B : List Int} {R : RL} (h : fldR m B R) : ∀ i j, i < j -> j < R.length -> (R.getD i []).getD 0 0 < (R.getD j []).getD 0 0
 | i, 0, h1, _ => absurd h1 (Nat.not_lt_zero _)
 | i, j + 1, h1, h2 => by
   have a := ((h.2.2.2 (j + 1) h2).1 (Nat.succ_pos _)).1
   rw [Nat.add_sub_cancel] at a
   by_cases e : i = j
   ·rw [e]; exact a
   ·exact Int.lt_trans (KP h i j (by omega) (by omega)) a
theorem Rg {m : Int} {B : List Int} {R : RL} (h : fldR m B R) {v : Int} (hv : 0 <= v) (k : Nat) : claB R v k 0 = bitS (selR R v) k := by
 have key : ∀ n, n <= R.length -> (∃ p, p + 1 < n /\ (R.getD p []).getD 0 0 <= v /\ v < (R.getD (p + 1) []).getD 0 0) \/ ∀ i, i < n -> (R.getD i []).getD 0 0 <= v := by
  intro n
  induction n with
  | zero => exact fun _ => Or.inr fun i hi => absurd hi (Nat.not_lt_zero _)
  | succ n ih =>
    intro hn
    rcases ih (by omega) with ⟨p, h1, h2⟩ | h1
    ·exact Or.inl ⟨p, by omega, h2⟩
    ·by_cases c : (R.getD n []).getD 0 0 <= v
     ·refine Or.inr fun i hi => ?_
      by_cases e : i = n
      ·rw [e]; exact c
      ·exact h1 i (by omega)
     ·cases n with
      | zero => exact absurd (by rw [h.2.1]; exact hv) c
      | succ n => exact Or.inl ⟨n, by omega, h1 n (by omega), by omega⟩
 obtain ⟨p, hp, h1, h2⟩ : ∃ p, p < R.length /\ (R.getD p []).getD 0 0 <= v /\ (p + 1 = R.length \/ v < (R.getD (p + 1) []).getD 0 0) := by
  rcases key R.length (Nat.le_refl _) with ⟨p, h1, h2, h3⟩ | h1
  ·exact ⟨p, by omega, h2, Or.inr h3⟩
  ·have := h.1
   exact ⟨R.length - 1, by omega, h1 _ (by omega), Or.inl (by omega)⟩
 have mono := KP h
 have up : ∀ j, p < j -> j < R.length -> v < (R.getD j []).getD 0 0 := fun j hj hl => by
  rcases h2 with h2 | h2
  ·omega
  ·by_cases e : j = p + 1
   ·rw [e]; exact h2
   ·exact Int.lt_trans h2 (mono (p + 1) j (by omega) hl)
 have lo : ∀ j, j <= p -> (R.getD j []).getD 0 0 <= v := fun j hj => by
  by_cases e : j = p
  ·rw [e]; exact h1
  ·exact Int.le_trans (Int.le_of_lt (mono j p (by omega) hp)) h1
 have sel := (cutP.sel (v := v) (n := (p : Int) + 1) ⟨by omega, by omega, fun i hi => lo i (by omega), fun i hi hl => up i (by omega) hl⟩ h hv).2
 rw [show ((p : Int) + 1 - 1).toNat = p by omega] at sel
 rw [sel, Bool.eq_iff_iff]
 unfold claB
 rw [List.drop_zero, List.all_eq_true]
 constructor
 ·intro g
  have g := g p (List.mem_range.2 hp)
  have e : holB R v p = true := by
   unfold holB
   rw [decide_eq_true h1, Bool.true_and]
   rcases h2 with h2 | h2
   ·rw [decide_eq_true h2]; rfl
   ·rw [decide_eq_true h2, Bool.or_true]
  rw [e] at g
  exact g
 ·intro g j hj
  have hj := List.mem_range.1 hj
  by_cases e : j = p
  ·rw [e, g, Bool.or_true]
  ·have : holB R v j = false := by
    unfold holB
    by_cases c : j < p
    ·have a := lo (j + 1) (by omega)
     rw [decide_eq_false (show ¬ (j + 1 = R.length) by omega), decide_eq_false (show ¬ v < (R.getD (j + 1) []).getD 0 0 by omega), Bool.or_false, Bool.and_false]
    ·have a := up j (by omega) hj
     rw [decide_eq_false (show ¬ (R.getD j []).getD 0 0 <= v by omega), Bool.false_and]
   rw [this]; rfl
theorem bn (b : Bool) : K.b.norm (b2i b) = b2i b := by cases b <;> rfl
theorem nb {o : Int} (h : K.b.norm o = o) : o = b2i (i2b o) := by
 have : o = 0 \/ o = 1 := by
  by_cases c : o = 0
  ·exact Or.inl c
  ·have h : (if o = 0 then (0 : Int) else 1) = o := h
   rw [if_neg c] at h; exact Or.inr h.symm
 rcases this with rfl | rfl <;> rfl
theorem okAd : IPz 14 pAd leAd Qa := by
 refine Ctx.OK.nil.loopK (c := cN) muAd true 9314 [] ⟨_, _, _, Tryd.func14, rfl, rfl⟩ ?_
 go_invoke
 refine enK rfl ?_
 intro φ l ρ k hk o ho v hv C i hi hp hφ hSS _
 obtain ⟨p1, p2, p3, p4, p5⟩ := hp
 replace p1 : rowsOK clK (dc C) := p1
 simp only [ewY, seval] at p2 p3 p4 p5
 have wC : IntKind.i64.wrap ((dc C).length : Int) = ((dc C).length : Int) := i64w (by omega) (by omega)
 by_cases c : i < ((dc C).length : Int)
 ·obtain ⟨f0, f1, f2, f3, f4, ef, hf0, hs⟩ := AJ p1 (show i.toNat < (dc C).length by omega)
  have zx := P0 p3.1 p3.2
  have zb := Md hs p3.1 p3.2
  have w0 : IntKind.i64.wrap (i + 1) = i + 1 := i64w (by omega) (by omega)
  have cs := Qc (v := v) (k := k.toNat) (show i.toNat < (dc C).length by omega)
  rw [ef, show i.toNat + 1 = (i + 1).toNat by omega] at cs
  have yp : ∀ o, lbAd.ent.pre [k, o, v, C, i + 1] := fun o => ⟨p1, p2, p3, by show 0 <= i + 1; omega, by show i + 1 <= ((dc C).length : Int); omega⟩
  have ym : ∀ o', muAd [k, o', v, C, i + 1] < muAd [k, o, v, C, i] := fun o' => by show (((dc C).length : Int) - (i + 1)).toNat < (((dc C).length : Int) - i).toNat; omega
  have ih := fun o' (ho : K.b.norm o' = o') => hφ [k, o', v, C, i + 1] ⟨hk, ho, hv, rfl, w0, trivial⟩ (yp o') (ym o')
  by_cases c1 : i + 1 = ((dc C).length : Int)
  ·by_cases c2 : f0 <= v
   ·refine ⟨?_, ?_⟩ <;> simp (disch := omega) only [ewZ, reduceCtorEq, seval, hSS, wC, c, ef, hf0, w0, zb, GJ, c1, c2]
    ·have a := yp (b2i (i2b o && bitS [f1, f2, f3, f4] k.toNat))
     have b := ym (b2i (i2b o && bitS [f1, f2, f3, f4] k.toNat))
     rw [c1] at a b
     exact ⟨⟨p4, fun _ => ⟨by omega, zx.1, zx.2.1⟩, fun _ => zx.2.2⟩, a, b⟩
    ·have z := ih (b2i (i2b o && bitS [f1, f2, f3, f4] k.toNat)) (bn _)
     rw [c1] at z
     replace z : K.b.norm (φ 0 [k, b2i (i2b o && bitS [f1, f2, f3, f4] k.toNat), v, C, ((dc C).length : Int)]) = b2i (i2b (b2i (i2b o && bitS [f1, f2, f3, f4] k.toNat)) && claB (dc C) v k.toNat ((dc C).length : Int).toNat) := z
     have hol : holB (dc C) v i.toNat = true := by
      unfold holB
      rw [ef, decide_eq_true (show [f0, f1, f2, f3, f4].getD 0 0 <= v from c2), decide_eq_true (show i.toNat + 1 = (dc C).length by omega)]; rfl
     show K.b.norm _ = b2i (i2b o && claB (dc C) v k.toNat i.toNat)
     rw [z, cs, hol, c1, BA, Bool.and_assoc]; rfl
   ·refine ⟨?_, ?_⟩ <;> simp (disch := omega) only [ewZ, reduceCtorEq, seval, hSS, wC, c, ef, hf0, w0, zb, GJ, c1, c2]
    ·have a := yp o
     have b := ym o
     rw [c1] at a b
     exact ⟨p4, a, b⟩
    ·have z := ih o ho
     rw [c1] at z
     replace z : K.b.norm (φ 0 [k, o, v, C, ((dc C).length : Int)]) = b2i (i2b o && claB (dc C) v k.toNat ((dc C).length : Int).toNat) := z
     have hol : holB (dc C) v i.toNat = false := by
      unfold holB
      rw [ef, decide_eq_false (show ¬ [f0, f1, f2, f3, f4].getD 0 0 <= v from c2)]; rfl
     show K.b.norm _ = b2i (i2b o && claB (dc C) v k.toNat i.toNat)
     rw [z, cs, hol, c1]; rfl
  ·obtain ⟨g0, g1, g2, g3, g4, eg, hg0, hg⟩ := AJ p1 (show (i + 1).toNat < (dc C).length by omega)
   by_cases c2 : f0 <= v /\ v < g0
   ·refine ⟨?_, ?_⟩ <;> simp (disch := omega) only [ewZ, reduceCtorEq, seval, hSS, wC, c, ef, eg, hf0, hg0, w0, zb, GJ, c1, c2.1, c2.2]
    ·exact ⟨⟨p4, ⟨by omega, by omega⟩, fun _ => ⟨by omega, zx.1, zx.2.1⟩, fun _ => zx.2.2⟩, yp _, ym _⟩
    ·have z := ih (b2i (i2b o && bitS [f1, f2, f3, f4] k.toNat)) (bn _)
     replace z : K.b.norm (φ 0 [k, b2i (i2b o && bitS [f1, f2, f3, f4] k.toNat), v, C, i + 1]) = b2i (i2b (b2i (i2b o && bitS [f1, f2, f3, f4] k.toNat)) && claB (dc C) v k.toNat (i + 1).toNat) := z
     have hol : holB (dc C) v i.toNat = true := by
      unfold holB
      rw [ef, show i.toNat + 1 = (i + 1).toNat by omega, eg, decide_eq_true (show [f0, f1, f2, f3, f4].getD 0 0 <= v from c2.1), decide_eq_true (show v < [g0, g1, g2, g3, g4].getD 0 0 from c2.2), Bool.or_true]; rfl
     show K.b.norm _ = b2i (i2b o && claB (dc C) v k.toNat i.toNat)
     rw [z, cs, hol, BA, Bool.and_assoc]; rfl
   ·refine ⟨?_, ?_⟩ <;> simp (disch := omega) only [ewZ, reduceCtorEq, seval, hSS, wC, c, ef, eg, hf0, hg0, w0, zb, GJ, c1, c2]
    ·exact ⟨⟨p4, fun _ => ⟨by omega, by omega⟩⟩, yp _, ym _⟩
    ·have z := ih o ho
     replace z : K.b.norm (φ 0 [k, o, v, C, i + 1]) = b2i (i2b o && claB (dc C) v k.toNat (i + 1).toNat) := z
     have hol : holB (dc C) v i.toNat = false := by
      unfold holB
      rw [ef, show i.toNat + 1 = (i + 1).toNat by omega, eg, decide_eq_false (show ¬ (i + 1).toNat = (dc C).length by omega)]
      show (decide (f0 <= v) && (false || decide (v < g0))) = false
      rw [Bool.false_or, <- Bool.decide_and, decide_eq_false c2]
     show K.b.norm _ = b2i (i2b o && claB (dc C) v k.toNat i.toNat)
     rw [z, cs, hol]; rfl
 ·refine ⟨?_, ?_⟩ <;> simp (disch := omega) only [ewZ, reduceCtorEq, seval, hSS, wC, c]
  ·show o = b2i (i2b o && claB (dc C) v k.toNat i.toNat)
   rw [Rf (by omega), Bool.and_true]
   exact nb ho
theorem cAbok : cAb.OK Tryd.prog G0 := ⟨rfl, mF trivial, mF ⟨okAd.1, trivial⟩⟩
theorem claA7 (T : List RL) (s : Int) (f : List Int) (i : Nat) : claA T s f i = (claB (T.getD 0 []) (valF 0 s f) i 0 && (claB (T.getD 1 []) (valF 1 s f) i 0 && (claB (T.getD 2 []) (valF 2 s f) i 0 && (claB (T.getD 3 []) (valF 3 s f) i 0 && (claB (T.getD 4 []) (valF 4 s f) i 0 && (claB (T.getD 5 []) (valF 5 s f) i 0 && claB (T.getD 6 []) (valF 6 s f) i 0)))))) := by
 unfold claA
 show List.all [0, 1, 2, 3, 4, 5, 6] _ = _
 simp only [List.all_cons, List.all_nil, Bool.and_true]
theorem okAb : IPz 14 pAb leAb Qb := by
 refine cAbok.nm.loopK muAb true 9114 [(100009314, leAd.nm.ent)] ⟨_, _, _, Tryd.func14, rfl, rfl⟩ ?_
 go_invoke
 refine enK rfl ?_
 intro φ l ρ s hs t0 ht0 l0 l1 l2 l3 l4 l5 l6 a0 ha0 a1 ha1 a2 ha2 a3 ha3 a4 ha4 kd hkd a6 ha6 ty hty co hco sq hsq ac hac wi hwi le hle w0 hw0 w1 hw1 w2 hw2 w3 hw3 w4 hw4 wk hwk A i hi hp hφ v1 hn1 v2 hn2 v3 hn3 v4 hn4 v5 hn5 v6 hn6 v7 hn7 hSS hd
 simp (disch := omega) only [and_true, Ent.nm_fn, hSS, ewZ, reduceCtorEq, seval] at hd
 obtain ⟨hd1, hd2, hd3, hd4, hd5, hd6, hd7⟩ := hd
 obtain ⟨p1, p2, p3, p4, p5, p6⟩ := hp
 replace p1 : pktP s [a0, a1, a2, a3, a4, kd, a6, ty, co, sq, ac, wi, le, w0, w1, w2, w3, w4, wk] := p1
 replace p2 : okT [t0, l0, l1, l2, l3, l4, l5, l6] := p2
 simp only [ewY, seval] at p3 p4 p5 p6
 by_cases c : i < t0
 ·have e1 : ¬ s > 1 := by have := p1.1; omega
  have e2 : a0 = 1 \/ a0 = 6 \/ a0 = 17 := p1.2
  have w0_ : IntKind.i64.wrap (i + 1) = i + 1 := i64w (by omega) (by omega)
  have e3 : ¬ ((¬a0 = 1 /\ ¬a0 = 6) /\ ¬a0 = 17) := by omega
  have es : s <= 1 := p1.1
  have b3 := u16r ha3
  have b4 := u16r ha4
  have b6 := u8r ha6
  have bs := u8r hs
  have u0 : IntKind.u32.wrap s = s := u32w (by omega) (by omega)
  have u3 : IntKind.u32.wrap a3 = a3 := u32w (by omega) (by omega)
  have u4 : IntKind.u32.wrap a4 = a4 := u32w (by omega) (by omega)
  have u6 : IntKind.u32.wrap (a6.tmod 64) = a6 % 64 := by rw [Int.tmod_eq_emod_of_nonneg b6.1]; exact u32w (by omega) (by omega)
  have n1 : IntKind.u32.wrap (if a0 = 1 then 0 else if a0 = 6 then 1 else 2) = (if a0 = 1 then 0 else if a0 = 6 then 1 else 2) := by split; rfl; split <;> rfl
  have n6 : IntKind.u32.wrap (if a0 = 6 then a6 % 64 else 0) = (if a0 = 6 then a6 % 64 else 0) := by split; exact u32w (by omega) (by omega); rfl
  simp (disch := omega) only [ewZ, reduceCtorEq, seval, es, true_imp_iff, e3, u0, u3, u4, u6] at hd1 hd2 hd3 hd4 hd5 hd6 hd7
  have y0 : leAd.ent.pre [i, 1, s, l0, 0] := ⟨(p2 0 (by decide)).1, (p2 0 (by decide)).2, ⟨p4, by show i < 256; omega⟩, Int.le_refl _, Int.natCast_nonneg _⟩
  have z0 := PostOK.use (vs := [v1]) okAd.2 rfl rfl ⟨hd1, trivial⟩ (by exact ⟨hi, rfl, u0, rfl, rfl, trivial⟩) y0
  replace z0 : v1 = b2i (i2b 1 && claB (dc l0) s i.toNat 0) := z0
  have y1 : leAd.ent.pre [i, v1, (if a0 = 1 then 0 else if a0 = 6 then 1 else 2), l1, 0] := ⟨(p2 1 (by decide)).1, (p2 1 (by decide)).2, ⟨p4, by show i < 256; omega⟩, Int.le_refl _, Int.natCast_nonneg _⟩
  have z1 := PostOK.use (vs := [v2]) okAd.2 rfl rfl ⟨hd2, trivial⟩ (by exact ⟨hi, hn1, n1, rfl, rfl, trivial⟩) y1
  replace z1 : v2 = b2i (i2b v1 && claB (dc l1) (if a0 = 1 then 0 else if a0 = 6 then 1 else 2) i.toNat 0) := z1
  have y2 : leAd.ent.pre [i, v2, a1, l2, 0] := ⟨(p2 2 (by decide)).1, (p2 2 (by decide)).2, ⟨p4, by show i < 256; omega⟩, Int.le_refl _, Int.natCast_nonneg _⟩
  have z2 := PostOK.use (vs := [v3]) okAd.2 rfl rfl ⟨hd3, trivial⟩ (by exact ⟨hi, hn2, ha1, rfl, rfl, trivial⟩) y2
  replace z2 : v3 = b2i (i2b v2 && claB (dc l2) a1 i.toNat 0) := z2
  have y3 : leAd.ent.pre [i, v3, a2, l3, 0] := ⟨(p2 3 (by decide)).1, (p2 3 (by decide)).2, ⟨p4, by show i < 256; omega⟩, Int.le_refl _, Int.natCast_nonneg _⟩
  have z3 := PostOK.use (vs := [v4]) okAd.2 rfl rfl ⟨hd4, trivial⟩ (by exact ⟨hi, hn3, ha2, rfl, rfl, trivial⟩) y3
  replace z3 : v4 = b2i (i2b v3 && claB (dc l3) a2 i.toNat 0) := z3
  have y4 : leAd.ent.pre [i, v4, a3, l4, 0] := ⟨(p2 4 (by decide)).1, (p2 4 (by decide)).2, ⟨p4, by show i < 256; omega⟩, Int.le_refl _, Int.natCast_nonneg _⟩
  have z4 := PostOK.use (vs := [v5]) okAd.2 rfl rfl ⟨hd5, trivial⟩ (by exact ⟨hi, hn4, u3, rfl, rfl, trivial⟩) y4
  replace z4 : v5 = b2i (i2b v4 && claB (dc l4) a3 i.toNat 0) := z4
  have y5 : leAd.ent.pre [i, v5, a4, l5, 0] := ⟨(p2 5 (by decide)).1, (p2 5 (by decide)).2, ⟨p4, by show i < 256; omega⟩, Int.le_refl _, Int.natCast_nonneg _⟩
  have z5 := PostOK.use (vs := [v6]) okAd.2 rfl rfl ⟨hd6, trivial⟩ (by exact ⟨hi, hn5, u4, rfl, rfl, trivial⟩) y5
  replace z5 : v6 = b2i (i2b v5 && claB (dc l5) a4 i.toNat 0) := z5
  have y6 : leAd.ent.pre [i, v6, (if a0 = 6 then a6 % 64 else 0), l6, 0] := ⟨(p2 6 (by decide)).1, (p2 6 (by decide)).2, ⟨p4, by show i < 256; omega⟩, Int.le_refl _, Int.natCast_nonneg _⟩
  have z6 := PostOK.use (vs := [v7]) okAd.2 rfl rfl ⟨hd7, trivial⟩ (by exact ⟨hi, hn6, n6, rfl, rfl, trivial⟩) y6
  replace z6 : v7 = b2i (i2b v6 && claB (dc l6) (if a0 = 6 then a6 % 64 else 0) i.toNat 0) := z6
  have z7 : i2b v7 = claA (tabs [t0, l0, l1, l2, l3, l4, l5, l6]) s [a0, a1, a2, a3, a4, kd, a6, ty, co, sq, ac, wi, le, w0, w1, w2, w3, w4, wk] i.toNat := by
   rw [claA7, z6, z5, z4, z3, z2, z1, z0]
   simp only [BA, Bool.and_assoc]; rfl
  have cs : ((List.range t0.toNat).drop i.toNat) = i.toNat :: (List.range t0.toNat).drop (i + 1).toNat := by
   rw [List.drop_eq_getElem_cons (by rw [List.length_range]; omega), List.getElem_range, show i.toNat + 1 = (i + 1).toNat by omega]
  obtain ⟨A', hA'⟩ : ∃ A', (if i2b v7 = true then cd (dc A ++ [[i]]) else A) = A' := ⟨_, rfl⟩
  have dA' : dc A' = dc A ++ (if i2b v7 = true then [[i]] else []) := by
   rw [<- hA']
   split
   ·exact Ab _
   ·rw [List.append_nil]
  have lA : (dc A').length <= (dc A).length + 1 := by rw [dA', List.length_append]; split <;> simp
  have yp : lbAb.ent.pre [s, t0, l0, l1, l2, l3, l4, l5, l6, a0, a1, a2, a3, a4, kd, a6, ty, co, sq, ac, wi, le, w0, w1, w2, w3, w4, wk, A', i + 1] := ⟨p1, p2, p3, by show 0 <= i + 1; omega, by show i + 1 <= t0; omega, by show ((dc A').length : Int) <= i + 1; omega⟩
  have ym : muAb [s, t0, l0, l1, l2, l3, l4, l5, l6, a0, a1, a2, a3, a4, kd, a6, ty, co, sq, ac, wi, le, w0, w1, w2, w3, w4, wk, A', i + 1] < muAb [s, t0, l0, l1, l2, l3, l4, l5, l6, a0, a1, a2, a3, a4, kd, a6, ty, co, sq, ac, wi, le, w0, w1, w2, w3, w4, wk, A, i] := by show (t0 - (i + 1)).toNat < (t0 - i).toNat; omega
  have ih := hφ [s, t0, l0, l1, l2, l3, l4, l5, l6, a0, a1, a2, a3, a4, kd, a6, ty, co, sq, ac, wi, le, w0, w1, w2, w3, w4, wk, A', i + 1] ⟨hs, ht0, rfl, rfl, rfl, rfl, rfl, rfl, rfl, ha0, ha1, ha2, ha3, ha4, hkd, ha6, hty, hco, hsq, hac, hwi, hle, hw0, hw1, hw2, hw3, hw4, hwk, rfl, w0_, trivial⟩ yp ym
  replace ih : dc (φ 0 [s, t0, l0, l1, l2, l3, l4, l5, l6, a0, a1, a2, a3, a4, kd, a6, ty, co, sq, ac, wi, le, w0, w1, w2, w3, w4, wk, A', i + 1]) = dc A' ++ Aq (((List.range t0.toNat).drop (i + 1).toNat).filter (claA (tabs [t0, l0, l1, l2, l3, l4, l5, l6]) s [a0, a1, a2, a3, a4, kd, a6, ty, co, sq, ac, wi, le, w0, w1, w2, w3, w4, wk])) := ih
  refine ⟨?_, ?_⟩
  ·simp (disch := omega) only [ewZ, reduceCtorEq, seval, hSS, c, e1, e3, u0, u3, u4, u6, w0_, hA']
   exact ⟨⟨y0, y1, y2, y3, y4, y5, y6, fun _ => by rw [List.length_append, List.length_singleton]; omega⟩, ⟨id, id⟩, yp, ym⟩
  ·simp (disch := omega) only [ewZ, reduceCtorEq, seval, hSS, c, e1, w0_, hA']
   show dc (φ 0 _) = dc A ++ Aq (((List.range t0.toNat).drop i.toNat).filter (claA (tabs [t0, l0, l1, l2, l3, l4, l5, l6]) s [a0, a1, a2, a3, a4, kd, a6, ty, co, sq, ac, wi, le, w0, w1, w2, w3, w4, wk]))
   rw [ih, cs, dA', List.filter_cons, <- z7, List.append_assoc]
   congr 1
   by_cases m : i2b v7 = true
   ·rw [if_pos m, if_pos m]
    show [i] :: Aq _ = [((i.toNat : Nat) : Int)] :: Aq _
    rw [show ((i.toNat : Nat) : Int) = i by omega]
   ·rw [if_neg m, if_neg m]; rfl
 ·refine ⟨?_, ?_⟩ <;> simp (disch := omega) only [ewZ, reduceCtorEq, seval, hSS, c]
  ·show dc A = dc A ++ Aq _
   have : ((List.range t0.toNat).drop i.toNat) = [] := List.drop_eq_nil_of_le (by rw [List.length_range]; omega)
   show dc A = dc A ++ Aq (((List.range t0.toNat).drop i.toNat).filter _)
   rw [this]; show dc A = dc A ++ []; rw [List.append_nil]
theorem c14ok : c14.OK Tryd.prog G0 := ⟨rfl, mF ⟨ok17.1, trivial⟩, mF ⟨okAb.1, trivial⟩⟩
theorem SU {ys : List Int} {s : Int} {f : List Int} (hR : tabR ys) (hv : Iq s f) : ∀ i, claA (tabs ys) s f i = Dw (tabs ys) s f i := fun i => by
 unfold claA Dw
 rw [Bool.eq_iff_iff, List.all_eq_true, List.all_eq_true]
 refine forall_congr' fun k => forall_congr' fun hk => ?_
 have hk := List.mem_range.1 hk
 have e : (tabs ys).getD k [] = dc (env ys (k + 1)) := by
  match k with
  | 0 | 1 | 2 | 3 | 4 | 5 | 6 => rfl
 rw [Rg (by rw [e]; exact hR.2.2 k hk) (hv k hk).1]
theorem ok14 : EPz e14 KO := by
 refine c14ok.nm.entryK true [(100000017, e17.nm), (100009114, leAb.nm.ent)] ?_
 go_invoke
 refine enK rfl ?_
 intro l ρ t0 ht0 l0 l1 l2 l3 l4 l5 l6 s hs a0 ha0 a1 ha1 a2 ha2 a3 ha3 a4 ha4 kd hkd a6 ha6 ty hty co hco sq hsq ac hac wi hwi le hle w0 hw0 w1 hw1 w2 hw2 w3 hw3 w4 hw4 wk hwk hp v1 hn1 v2 hSS hd
 simp (disch := omega) only [and_true, Ent.nm_fn, hSS, ewZ, reduceCtorEq, seval] at hd
 obtain ⟨hd1, hd2⟩ := hd
 have p1 : okT [t0, l0, l1, l2, l3, l4, l5, l6] := hp
 have z1 := (PostOK.usf (vs := [v1]) ok17.2 ⟨hd1, trivial⟩) ⟨ht0, rfl, rfl, rfl, rfl, rfl, rfl, rfl, trivial⟩ p1
 replace z1 : (v1 = 1 /\ tabR [t0, l0, l1, l2, l3, l4, l5, l6]) \/ (v1 = 0 /\ ¬ tabR [t0, l0, l1, l2, l3, l4, l5, l6]) := z1
 rcases z1 with ⟨rfl, z1⟩ | ⟨rfl, z1⟩
 rotate_left
 ·refine ⟨?_, ?_⟩ <;> simp (disch := omega) only [ewZ, reduceCtorEq, seval, hSS]
  ·exact p1
  ·exact Or.inl ⟨z1, Ab _, rfl⟩
 by_cases hp' : pktP s [a0, a1, a2, a3, a4, kd, a6, ty, co, sq, ac, wi, le, w0, w1, w2, w3, w4, wk]
 ·have e1 : ¬ s > 1 := by have := hp'.1; omega
  have e2 : a0 = 1 \/ a0 = 6 \/ a0 = 17 := hp'.2
  have e3 : ¬ ((¬a0 = 1 /\ ¬a0 = 6) /\ ¬a0 = 17) := by omega
  have y2 : leAb.ent.pre [s, t0, l0, l1, l2, l3, l4, l5, l6, a0, a1, a2, a3, a4, kd, a6, ty, co, sq, ac, wi, le, w0, w1, w2, w3, w4, wk, cd [], 0] := ⟨hp', p1, z1.2.1, Int.le_refl _, z1.1, by show ((dc (cd [])).length : Int) <= 0; rw [Ab]; exact Int.le_refl _⟩
  have z2 := (PostOK.usf (vs := [v2]) okAb.2 ⟨hd2, trivial⟩) (by exact ⟨hs, ht0, rfl, rfl, rfl, rfl, rfl, rfl, rfl, ha0, ha1, ha2, ha3, ha4, hkd, ha6, hty, hco, hsq, hac, hwi, hle, hw0, hw1, hw2, hw3, hw4, hwk, rfl, rfl, trivial⟩) y2
  replace z2 : dc v2 = dc (cd []) ++ Aq ((List.range t0.toNat).filter (claA (tabs [t0, l0, l1, l2, l3, l4, l5, l6]) s [a0, a1, a2, a3, a4, kd, a6, ty, co, sq, ac, wi, le, w0, w1, w2, w3, w4, wk])) := z2
  rw [Ab, List.nil_append] at z2
  have hV := PV hs hp' (by exact ⟨ha0, ha1, ha2, ha3, ha4, hkd, ha6, hty, hco, hsq, hac, hwi, hle, hw0, hw1, hw2, hw3, hw4, hwk, trivial⟩)
  refine ⟨?_, ?_⟩ <;> simp (disch := omega) only [ewZ, reduceCtorEq, seval, hSS, e1, e3]
  ·exact ⟨p1, fun _ => y2, fun h => h⟩
  ·refine Or.inr (Or.inr ⟨z1, hp', ?_, rfl⟩)
   show dc v2 = Aq (allF t0.toNat _ _ _)
   rw [z2]
   unfold allF
   exact congrArg Aq (List.filter_congr fun i _ => SU z1 hV i)
 ·have e3 : s > 1 \/ ((¬a0 = 1 /\ ¬a0 = 6) /\ ¬a0 = 17) := Classical.byContradiction fun h => hp' ⟨by omega, by show a0 = 1 \/ a0 = 6 \/ a0 = 17; omega⟩
  refine ⟨?_, ?_⟩
  ·rcases e3 with e3 | e3 <;> simp (disch := omega) only [ewZ, reduceCtorEq, seval, hSS, e3]
   ·exact p1
   ·exact p1
  ·have x0 : ∀ a b : Int, dc a = [] -> b = 261 -> KO [t0, l0, l1, l2, l3, l4, l5, l6, s, a0, a1, a2, a3, a4, kd, a6, ty, co, sq, ac, wi, le, w0, w1, w2, w3, w4, wk] [a, b] := fun a b ha hb => Or.inr (Or.inl ⟨z1, hp', ha, hb⟩)
   rcases e3 with e3 | e3 <;> simp (disch := omega) only [ewZ, reduceCtorEq, seval, hSS, e3]
   ·exact x0 _ _ (Ab _) rfl
   ·exact x0 _ _ (Ab _) rfl
end
end Go.Proofs.YtgpflpbldeflhaaDoor.Ew.Sr
set_option maxHeartbeats 8000000
namespace Go.Proofs.YtgpflpbldeflhaaDoor.Ew.Sr
open Go Go.RowKit
noncomputable section
def pPw : List Bool := [true,true,false,true,false]
def prePw (xs : List Int) : Prop := 0 <= env xs 0 /\ env xs 0 <= 32 /\ 0 <= env xs 2 /\ env xs 2 <= env xs 0 /\ env xs 1 = 2 ^ (env xs 2).toNat
def It (xs ys : List Int) : Prop := env ys 0 = 2 ^ (env xs 0).toNat
def muPw (xs : List Int) : Nat := (env xs 0 - env xs 2).toNat
def lbPw : LEnt := ⟨⟨9087, 999999, [i64, u64, i64], [], [], .tup [u64], z0, prePw⟩, [0, 3, 4], [3], (List.range 8).map (· + 4), [.ex 0], 13, []⟩
def lePw : LEnt := lbPw.fw (fnM Tryd.prog G0 87 pPw lbPw It)
def c87 : Ctx := ⟨[], [(87, pPw, lePw)]⟩
def pre87 (xs : List Int) : Prop := 0 <= env xs 0 /\ env xs 0 <= 32
def b87 : Ent := ⟨87, 87, [i64], [], [], u64, z0, pre87⟩
def e87 : Ent := b87.fw (fnG Tryd.prog G0 b87 It)
def c75 : Ctx := ⟨[e87], []⟩
def Qd (xs ys : List Int) : Prop := (env ys 0 = 1 /\ pfR (env xs 0) (env xs 1)) \/ (env ys 0 = 0 /\ ¬ pfR (env xs 0) (env xs 1))
def b75 : Ent := ⟨75, 75, [.agg [u32, u8]], [], [], .sc .b, z0, T0⟩
def e75 : Ent := b75.fw (fnG Tryd.prog G0 b75 Qd)
def rngP (p f t : Int) : Prop := if p = 1 then f <= t else f = 0 /\ t = 65535
def Qe (xs ys : List Int) : Prop := (env ys 0 = 1 /\ rngP (env xs 2) (env xs 0) (env xs 1)) \/ (env ys 0 = 0 /\ ¬ rngP (env xs 2) (env xs 0) (env xs 1))
def b76 : Ent := ⟨76, 76, [.agg [u16, u16], .sc .b], [], [], .sc .b, z0, T0⟩
def e76 : Ent := b76.fw (fnG Tryd.prog G0 b76 Qe)
def pre77 (xs : List Int) : Prop := 0 <= env xs 1 /\ env xs 1 <= 7
def Qf (xs ys : List Int) : Prop := env ys 0 = b2i ((env xs 0).toNat.testBit (env xs 1).toNat)
def b77 : Ent := ⟨77, 77, [u8, i64], [], [], .sc .b, z0, pre77⟩
def e77 : Ent := b77.fw (fnG Tryd.prog G0 b77 Qf)
def pBt : List Bool := [true,true,true,true,true,false,true,false]
def GK (w m : Int) (i : Nat) : Prop := ∀ j, i <= j -> j < 8 -> w.toNat.testBit j = true -> m.toNat.testBit j = true
def preBt (xs : List Int) : Prop := 0 <= env xs 14 /\ env xs 14 <= 8
def Qg (xs ys : List Int) : Prop := (env ys 0 = 1 /\ GK (env xs 3) (env xs 2) (env xs 14).toNat) \/ (env ys 0 = 0 /\ env ys 1 = 0 /\ ¬ GK (env xs 3) (env xs 2) (env xs 14).toNat)
def muBt (xs : List Int) : Nat := (8 - env xs 14).toNat
def cBt : Ctx := ⟨[e77], []⟩
def lbBt : LEnt := ⟨⟨9043, 999999, [.obj 74 (ruK.map .sc), .sc .b, i64], [], [0], .tup [.sc .b, .sc .b], z0, preBt⟩, [1, 2, 4], [2], [4] ++ (List.range 15).map (· + 73), [.ex 0, .ret], 88, []⟩
def leBt : LEnt := lbBt.fw (fnM Tryd.prog G0 43 pBt lbBt Qg)
def c43 : Ctx := ⟨[e75, e76], [(43, pBt, leBt)]⟩
def b43 : Ent := ⟨43, 43, [ru], [], [], .sc .b, z0, T0⟩
def e43 : Ent := b43.fw (fnG Tryd.prog G0 b43 EN)
theorem Nt {k : Int} (h0 : 0 <= k) (h1 : k <= 32) : ∃ P : Nat, (2 : Int) ^ k.toNat = (P : Int) /\ 1 <= P /\ P <= 4294967296 /\ P = 2 ^ k.toNat := by
 obtain ⟨P, e1, e2, e3, e4⟩ := Fo (n := 32 - k) (by omega) (by omega)
 have e : (32 - (32 - k)).toNat = k.toNat := by omega
 unfold psz at e1
 rw [e] at e1 e2
 exact ⟨P, e1, e3, e4, e2⟩
theorem okPw : IPz 87 pPw lePw It := by
 refine Ctx.OK.nil.loopK (c := cN) muPw true 9087 [] ⟨_, _, _, Tryd.func87, rfl, rfl⟩ ?_
 go_invoke
 refine enK rfl ?_
 intro φ l ρ n hn q hq i hi hp hφ hSS _
 obtain ⟨p1, p2, p3, p4, p5⟩ := hp
 simp only [ewY, seval] at p1 p2 p3 p4 p5
 by_cases c : i < n
 ·have w0 : IntKind.i64.wrap (i + 1) = i + 1 := i64w (by omega) (by omega)
  obtain ⟨P, e1, e2, e3, _⟩ := Nt (k := i + 1) (by omega) (by omega)
  have e4 : q * 2 = (2 : Int) ^ (i + 1).toNat := by rw [p5, show (i + 1).toNat = i.toNat + 1 by omega, Int.pow_succ]
  have w1 : IntKind.u64.wrap (q * 2) = q * 2 := by rw [e4, e1]; exact u64w (by omega) (by omega)
  have yp : lbPw.ent.pre [n, q * 2, i + 1] := ⟨p1, p2, by show 0 <= i + 1; omega, by show i + 1 <= n; omega, e4⟩
  have ym : muPw [n, q * 2, i + 1] < muPw [n, q, i] := by show (n - (i + 1)).toNat < (n - i).toNat; omega
  have ih := hφ [n, q * 2, i + 1] ⟨hn, w1, w0, trivial⟩ yp ym
  refine ⟨?_, ?_⟩ <;> simp (disch := omega) only [ewZ, reduceCtorEq, seval, hSS, c, w0, w1]
  ·exact ⟨yp, ym⟩
  ·exact ih
 ·refine ⟨?_, ?_⟩ <;> simp (disch := omega) only [ewZ, reduceCtorEq, seval, hSS, c]
  ·show q = 2 ^ n.toNat
   rw [p5, show i = n by omega]
theorem c87ok : c87.OK Tryd.prog G0 := ⟨rfl, mF trivial, mF ⟨okPw.1, trivial⟩⟩
theorem ok87 : EPz e87 It := by
 refine c87ok.nm.entryK true [(100009087, lePw.nm.ent)] ?_
 go_invoke
 refine enK rfl ?_
 intro l ρ n hn hp v1 hn1 hSS hd1
 simp (disch := omega) only [and_true, Ent.nm_fn, hSS, ewZ, reduceCtorEq, seval] at hd1
 obtain ⟨p1, p2⟩ := hp
 have y : lePw.ent.pre [n, 1, 0] := ⟨p1, p2, Int.le_refl _, p1, rfl⟩
 have z := (PostOK.usf (vs := [v1]) okPw.2 ⟨hd1, trivial⟩) ⟨hn, rfl, rfl, trivial⟩ y
 refine ⟨?_, ?_⟩ <;> simp (disch := omega) only [ewZ, reduceCtorEq, seval, hSS]
 ·exact y
 ·exact z
theorem RU : c75.OK Tryd.prog G0 := ⟨rfl, mF ⟨ok87.1, trivial⟩, mF trivial⟩
theorem ok75 : EPz e75 Qd := by
 refine RU.nm.entryK true [(100000087, e87.nm)] ?_
 go_invoke
 refine enK rfl ?_
 intro l ρ a ha n hn hp v1 hn1 hSS hd1
 simp (disch := omega) only [and_true, Ent.nm_fn, hSS, ewZ, reduceCtorEq, seval] at hd1
 have ga := u32r ha
 have gn := u8r hn
 by_cases c : n <= 32
 ·have w0 : IntKind.i64.wrap n = n := i64w (by omega) (by omega)
  have w1 : IntKind.i64.wrap (32 - n) = 32 - n := i64w (by omega) (by omega)
  have y : e87.pre [32 - n] := ⟨by show 0 <= 32 - n; omega, by show 32 - n <= 32; omega⟩
  simp only [w0, w1] at hd1
  have z := (PostOK.usf (vs := [v1]) ok87.2 ⟨hd1, trivial⟩) ⟨(by first | rfl | assumption | exact i64w (by omega) (by omega) | exact u8w (by omega) (by omega)), trivial⟩ y
  replace z : v1 = 2 ^ (32 - n).toNat := z
  obtain ⟨P, e1, e2, e3, _⟩ := Nt (k := 32 - n) (by omega) (by omega)
  refine ⟨?_, ?_⟩ <;> simp (disch := omega) only [ewZ, reduceCtorEq, seval, hSS, c, w0, w1]
  ·exact ⟨y, by rw [z, e1]; omega⟩
  ·have v0 : 0 < v1 := by rw [z, e1]; omega
   have g1 := Int.emod_nonneg a (show v1 ≠ 0 by omega)
   have g2 := Int.emod_lt_of_pos a v0
   have t : IntKind.u64.wrap (a.tmod v1) = a % v1 := by
    rw [Int.tmod_eq_emod_of_nonneg ga.1]
    exact u64w g1 (by rw [z, e1] at g2; rw [z, e1]; omega)
   rw [t]
   by_cases h : a % v1 = 0
   ·rw [h]
    exact Or.inl ⟨rfl, gn.1, c, by show a % psz n = 0; unfold psz; rw [<- z]; exact h⟩
   ·refine Or.inr ⟨?_, fun h' => h (by rw [z]; exact h'.2.2)⟩
    show b2i (true && (a % v1 == 0)) = 0
    rw [show (a % v1 == 0) = false by simp [h]]; rfl
 ·refine ⟨?_, ?_⟩ <;> simp (disch := omega) only [ewZ, reduceCtorEq, seval, hSS, c]
  ·exact Or.inr ⟨rfl, fun h => c h.2.1⟩
theorem ok76 : EPz e76 Qe := by
 refine Ctx.OK.nil.entryK (c := cN) true [] ?_
 go_invoke
 refine enK rfl ?_
 intro l ρ a ha b hb q hq hp hSS _
 refine ⟨?_, ?_⟩ <;> simp (disch := omega) only [ewZ, reduceCtorEq, seval, hSS]
 ·have q01 : q = 0 \/ q = 1 := by
   have := nb hq
   rw [this]; cases i2b q
   ·exact Or.inl rfl
   ·exact Or.inr rfl
  rcases q01 with rfl | rfl
  ·show (b2i (a == 0 && b == 65535) = 1 /\ rngP 0 a b) \/ (b2i (a == 0 && b == 65535) = 0 /\ ¬ rngP 0 a b)
   unfold rngP
   rw [if_neg (by decide)]
   by_cases h : a = 0 /\ b = 65535
   ·rw [h.1, h.2]; exact Or.inl ⟨rfl, rfl, rfl⟩
   ·refine Or.inr ⟨?_, h⟩
    have : (a == 0 && b == 65535) = false := by
     rw [Bool.eq_false_iff]
     intro h'
     simp only [Bool.and_eq_true, beq_iff_eq] at h'
     exact h h'
    rw [this]; rfl
  ·show (b2i (decide (a <= b)) = 1 /\ rngP 1 a b) \/ (b2i (decide (a <= b)) = 0 /\ ¬ rngP 1 a b)
   unfold rngP
   rw [if_pos rfl]
   by_cases h : a <= b
   ·rw [decide_eq_true h]; exact Or.inl ⟨rfl, h⟩
   ·rw [decide_eq_false h]; exact Or.inr ⟨rfl, h⟩
theorem ok77 : EPz e77 Qf := by
 refine RU.nm.entryK true [(100000087, e87.nm)] ?_
 go_invoke
 refine enK rfl ?_
 intro l ρ n hn i hi hp v1 hn1 hSS hd1
 simp (disch := omega) only [and_true, Ent.nm_fn, hSS, ewZ, reduceCtorEq, seval] at hd1
 obtain ⟨p1, p2⟩ := hp
 simp only [ewY, seval] at p1 p2
 have y : e87.pre [i] := ⟨by show 0 <= i; omega, by show i <= 32; omega⟩
 have z := (PostOK.usf (vs := [v1]) ok87.2 ⟨hd1, trivial⟩) ⟨hi, trivial⟩ y
 replace z : v1 = 2 ^ i.toNat := z
 obtain ⟨P, e1, e2, e3, e4⟩ := Nt (k := i) (by omega) (by omega)
 refine ⟨?_, ?_⟩ <;> simp (disch := omega) only [ewZ, reduceCtorEq, seval, hSS]
 ·exact ⟨y, by rw [z, e1]; omega⟩
 ·have gn := u8r hn
  have wn : IntKind.u64.wrap n = n := u64w (by omega) (by omega)
  have g1 : n.toNat / 2 ^ i.toNat <= n.toNat := Nat.div_le_self _ _
  have hd : n.tdiv v1 = ((n.toNat / 2 ^ i.toNat : Nat) : Int) := by
   rw [Int.tdiv_eq_ediv_of_nonneg gn.1, z, e1, <- e4, Int.natCast_ediv]
   congr 1
   omega
  show b2i ((IntKind.u64.wrap ((IntKind.u64.wrap n).tdiv v1)).tmod 2 == 1) = b2i (n.toNat.testBit i.toNat)
  rw [wn, hd, Nat.testBit_eq_decide_div_mod_eq]
  generalize n.toNat / 2 ^ i.toNat = Q at g1
  have hw : IntKind.u64.wrap (Q : Int) = (Q : Int) := u64w (by omega) (by omega)
  rw [hw, Int.tmod_eq_emod_of_nonneg (by omega)]
  congr 1
  rw [Bool.eq_iff_iff, beq_iff_eq, decide_eq_true_eq]
  omega
theorem TM {b3 b2 : Bool} {A B : Int} {X Y S T : Prop} (ih : (A = 1 /\ X) \/ (A = 0 /\ B = 0 /\ Y)) (k1 : (b3 = true -> b2 = true) -> X -> S) (k2 : Y -> T) (k3 : ¬ (b3 = true -> b2 = true) -> T) :
 ((if (b3 = true -> b2 = true) /\ i2b A = true then (1 : Int) else 0) = 1 /\ S) \/ ((if (b3 = true -> b2 = true) /\ i2b A = true then (1 : Int) else 0) = 0 /\
   (if (b3 = true -> b2 = true) /\ i2b A = true then B else b2i (!(decide True && (b3 && !b2)) && i2b B)) = 0 /\ T) := by
 by_cases q : b3 = true -> b2 = true
 ·rcases ih with ⟨rfl, x⟩ | ⟨rfl, rfl, y⟩
  ·rw [if_pos ⟨q, rfl⟩]; exact Or.inl ⟨rfl, k1 q x⟩
  ·rw [if_neg fun h => absurd h.2 (by decide), if_neg fun h => absurd h.2 (by decide)]
   refine Or.inr ⟨rfl, ?_, k2 y⟩
   rw [show i2b 0 = false from rfl, Bool.and_false]; rfl
 ·rw [if_neg fun h => q h.1, if_neg fun h => q h.1]
  refine Or.inr ⟨rfl, ?_, k3 q⟩
  cases b3 <;> cases b2
  ·exact absurd (fun h => (by cases h)) q
  ·exact absurd (fun _ => rfl) q
  ·rfl
  ·exact absurd (fun _ => rfl) q
theorem cBtok : cBt.OK Tryd.prog G0 := ⟨rfl, mF ⟨ok77.1, trivial⟩, mF trivial⟩
theorem okBt : IPz 43 pBt leBt Qg := by
 refine cBtok.loopK muBt true 9043 [(77, e77)] ⟨_, _, _, Tryd.func43, rfl, rfl⟩ ?_
 go_invoke
 refine enK rfl ?_
 intro φ l ρ s0 hs0 s1 hs1 s2 hs2 s3 hs3 s4 hs4 s5 hs5 s6 hs6 s7 hs7 s8 hs8 s9 hs9 sa hsa sb hsb sc hsc w hw i hi hp hφ hSS _
 obtain ⟨p1, p2⟩ := hp
 simp only [ewY, seval] at p1 p2
 by_cases c : i < 8
 ·have w0 : IntKind.i64.wrap (i + 1) = i + 1 := i64w (by omega) (by omega)
  have y1 : e77.pre [s3, i] := ⟨p1, by show i <= 7; omega⟩
  have y2 : e77.pre [s2, i] := ⟨p1, by show i <= 7; omega⟩
  have z1 := ok77.2 [s3, i] ⟨hs3, hi, trivial⟩ y1
  have z2 := ok77.2 [s2, i] ⟨hs2, hi, trivial⟩ y2
  replace z1 : K.b.norm (e77.fn 0 [s3, i]) = b2i (s3.toNat.testBit i.toNat) := z1
  replace z2 : K.b.norm (e77.fn 0 [s2, i]) = b2i (s2.toNat.testBit i.toNat) := z2
  have yp : lbBt.ent.pre [s0, s1, s2, s3, s4, s5, s6, s7, s8, s9, sa, sb, sc, w, i + 1] := ⟨by show 0 <= i + 1; omega, by show i + 1 <= 8; omega⟩
  have ym : muBt [s0, s1, s2, s3, s4, s5, s6, s7, s8, s9, sa, sb, sc, w, i + 1] < muBt [s0, s1, s2, s3, s4, s5, s6, s7, s8, s9, sa, sb, sc, w, i] := by show (8 - (i + 1)).toNat < (8 - i).toNat; omega
  have ih := hφ [s0, s1, s2, s3, s4, s5, s6, s7, s8, s9, sa, sb, sc, w, i + 1] ⟨hs0, hs1, hs2, hs3, hs4, hs5, hs6, hs7, hs8, hs9, hsa, hsb, hsc, hw, w0, trivial⟩ yp ym
  refine ⟨?_, ?_⟩ <;> simp (disch := omega) only [ewZ, reduceCtorEq, seval, hSS, c, w0, z1, z2]
  ·exact ⟨⟨y1, fun _ => y2⟩, fun _ => ⟨yp, ym⟩⟩
  ·refine TM ih (fun q h => ?_) (fun h g => h ?_) (fun q g => q ?_)
   ·show GK s3 s2 i.toNat
    intro j h1 h2 h3
    by_cases e : j = i.toNat
    ·rw [e] at h3 ⊢; exact q h3
    ·exact h j (by show (i + 1).toNat <= j; omega) h2 h3
   ·intro j h1 h2 h3
    have h1 : (i + 1).toNat <= j := h1
    exact g j (by show i.toNat <= j; omega) h2 h3
   ·exact g i.toNat (Nat.le_refl _) (by omega)
 ·refine ⟨?_, ?_⟩ <;> simp (disch := omega) only [ewZ, reduceCtorEq, seval, hSS, c]
  ·exact Or.inl ⟨rfl, fun j h1 h2 => by have h1 : i.toNat <= j := h1; omega⟩
theorem andN8 {x y : Int} (hx : IntKind.u8.wrap x = x) (hy : IntKind.u8.wrap y = y) : 0 <= bitsI .andNot .u8 x y /\ bitsI .andNot .u8 x y <= 255 /\ ∀ i, i < 8 -> (bitsI .andNot .u8 x y).toNat.testBit i = (x.toNat.testBit i && !y.toNat.testBit i) := by
 rw [IntKind.wrap_u8] at hx hy
 have e1 : (BitVec.ofInt 8 x).toNat = x.toNat := by rw [BitVec.toNat_ofInt]; omega
 have e2 : (BitVec.ofInt 8 y).toNat = y.toNat := by rw [BitVec.toNat_ofInt]; omega
 obtain ⟨z, hz⟩ : ∃ z, (BitVec.ofInt 8 x &&& ~~~ BitVec.ofInt 8 y) = z := ⟨_, rfl⟩
 have h1 := z.isLt
 have e3 : bitsI .andNot .u8 x y = (z.toNat : Int) := by
  show IntKind.u8.wrap ((BitVec.ofInt 8 x &&& ~~~ BitVec.ofInt 8 y).toNat : Int) = _
  rw [hz, IntKind.wrap_u8]; omega
 refine ⟨by rw [e3]; omega, by rw [e3]; omega, fun i hi => ?_⟩
 rw [e3, Int.toNat_natCast, <- hz, BitVec.toNat_and, BitVec.toNat_not, e1, e2, Nat.testBit_and, show 2 ^ 8 - 1 - y.toNat = 2 ^ 8 - (y.toNat + 1) by omega, Nat.testBit_two_pow_sub_succ (by omega), decide_eq_true hi, Bool.true_and]
theorem Jr {w m : Int} (hw : IntKind.u8.wrap w = w) (hm : IntKind.u8.wrap m = m) : GK w m 0 ↔ bitsI .andNot .u8 w m = 0 := by
 obtain ⟨a1, a2, a3⟩ := andN8 hw hm
 constructor
 ·intro h
  have : (bitsI .andNot .u8 w m).toNat = 0 := Nat.eq_of_testBit_eq fun i => by
   rw [Nat.zero_testBit]
   by_cases c : i < 8
   ·rw [a3 i c]
    cases e : w.toNat.testBit i
    ·rfl
    ·rw [h i (Nat.zero_le _) c e]; rfl
   ·exact Nat.testBit_lt_two_pow (Nat.lt_of_lt_of_le (show (bitsI .andNot .u8 w m).toNat < 2 ^ 8 by omega) (Nat.pow_le_pow_right (by decide) (by omega)))
  omega
 ·intro h j _ h2 h3
  have := a3 j h2
  rw [h, h3] at this
  cases e : m.toNat.testBit j
  ·rw [e] at this
   rw [show (0 : Int).toNat = 0 from rfl, Nat.zero_testBit] at this
   cases this
  ·rfl
theorem SW {m : Int} (hm : IntKind.u8.wrap m = m) : m <= 63 ↔ bitsI .andNot .u8 m 63 = 0 := by
 have g := u8r hm
 refine ⟨fun h => ?_, mask63 (by omega)⟩
 rw [<- Jr hm rfl]
 intro j _ h2 h3
 have e : (63 : Int).toNat = 2 ^ 6 - 1 := rfl
 rw [e, Nat.testBit_two_pow_sub_one]
 by_cases c : j < 6
 ·exact decide_eq_true c
 ·have : m.toNat.testBit j = false := Nat.testBit_lt_two_pow (Nat.lt_of_lt_of_le (show m.toNat < 2 ^ 6 by omega) (Nat.pow_le_pow_right (by decide) (by omega)))
  rw [this] at h3; cases h3
theorem JG {u : Int} {Q : Prop} (z : (u = 1 /\ Q) \/ (u = 0 /\ ¬ Q)) : i2b u = true ↔ Q := by
 rcases z with ⟨rfl, h⟩ | ⟨rfl, h⟩
 ·exact ⟨fun _ => h, fun _ => rfl⟩
 ·exact ⟨fun h' => (by cases h'), fun h' => absurd h' h⟩
theorem c43ok : c43.OK Tryd.prog G0 := ⟨rfl, mF ⟨ok75.1, ok76.1, trivial⟩, mF ⟨okBt.1, trivial⟩⟩
theorem ok43 : EPz e43 EN := by
 refine c43ok.entryK true [(75, e75), (76, e76), (9043, leBt.ent)] ?_
 go_invoke
 refine enK rfl ?_
 intro l ρ s0 hs0 s1 hs1 s2 hs2 s3 hs3 s4 hs4 s5 hs5 s6 hs6 s7 hs7 s8 hs8 s9 hs9 sa hsa sb hsb sc hsc hp hSS _
 obtain ⟨u1, hu1⟩ : ∃ u, K.b.norm (e75.fn 0 [s4, s5]) = u := ⟨_, rfl⟩
 obtain ⟨u2, hu2⟩ : ∃ u, K.b.norm (e75.fn 0 [s6, s7]) = u := ⟨_, rfl⟩
 have z1 : (u1 = 1 /\ pfR s4 s5) \/ (u1 = 0 /\ ¬ pfR s4 s5) := by rw [<- hu1]; exact ok75.2 [s4, s5] ⟨hs4, hs5, trivial⟩ trivial
 have z2 : (u2 = 1 /\ pfR s6 s7) \/ (u2 = 0 /\ ¬ pfR s6 s7) := by rw [<- hu2]; exact ok75.2 [s6, s7] ⟨hs6, hs7, trivial⟩ trivial
 have yB : leBt.ent.pre [s0, s1, s2, s3, s4, s5, s6, s7, s8, s9, sa, sb, sc, 0, 0] := ⟨Int.le_refl _, by show (0 : Int) <= 8; decide⟩
 have z5 := okBt.2 [s0, s1, s2, s3, s4, s5, s6, s7, s8, s9, sa, sb, sc, 0, 0] ⟨hs0, hs1, hs2, hs3, hs4, hs5, hs6, hs7, hs8, hs9, hsa, hsb, hsc, rfl, rfl, trivial⟩ yB
 obtain ⟨A, hA⟩ : ∃ A, K.b.norm (leBt.ent.fn 0 [s0, s1, s2, s3, s4, s5, s6, s7, s8, s9, sa, sb, sc, 0, 0]) = A := ⟨_, rfl⟩
 obtain ⟨B, hB⟩ : ∃ A, K.b.norm (leBt.ent.fn 1 [s0, s1, s2, s3, s4, s5, s6, s7, s8, s9, sa, sb, sc, 0, 0]) = A := ⟨_, rfl⟩
 replace z5 : (A = 1 /\ GK s3 s2 0) \/ (A = 0 /\ B = 0 /\ ¬ GK s3 s2 0) := by rw [<- hA, <- hB]; exact z5
 rw [Jr hs3 hs2] at z5
 obtain ⟨P, hP⟩ : ∃ P, b2i (s1 == 6 || s1 == 17) = P := ⟨_, rfl⟩
 have nP : K.b.norm P = P := by rw [<- hP]; exact bn _
 obtain ⟨u3, hu3⟩ : ∃ u, K.b.norm (e76.fn 0 [s8, s9, P]) = u := ⟨_, rfl⟩
 obtain ⟨u4, hu4⟩ : ∃ u, K.b.norm (e76.fn 0 [sa, sb, P]) = u := ⟨_, rfl⟩
 have z3 : (u3 = 1 /\ rngP P s8 s9) \/ (u3 = 0 /\ ¬ rngP P s8 s9) := by rw [<- hu3]; exact ok76.2 [s8, s9, P] ⟨hs8, hs9, nP, trivial⟩ trivial
 have z4 : (u4 = 1 /\ rngP P sa sb) \/ (u4 = 0 /\ ¬ rngP P sa sb) := by rw [<- hu4]; exact ok76.2 [sa, sb, P] ⟨hsa, hsb, nP, trivial⟩ trivial
 refine ⟨?_, ?_⟩
 ·have p75 : ∀ xs, e75.pre xs := fun _ => trivial
  have p76 : ∀ xs, e76.pre xs := fun _ => trivial
  simp (disch := omega) only [ewZ, reduceCtorEq, seval, hSS, hu1, hu2, p75, p76, yB]
 ·simp (disch := omega) only [ewZ, reduceCtorEq, seval, hSS, hu1, hu2, hA, hB, hP, hu3, hu4]
  have hX : ∀ X : Bool, (X = true ↔ rightP [s0, s1, s2, s3, s4, s5, s6, s7, s8, s9, sa, sb, sc]) -> EN [s0, s1, s2, s3, s4, s5, s6, s7, s8, s9, sa, sb, sc] [b2i X] := fun X h => by
   cases X
   ·exact Or.inr ⟨rfl, fun h' => by have := h.2 h'; cases this⟩
   ·exact Or.inl ⟨rfl, h.1 rfl⟩
  have hr : rightP [s0, s1, s2, s3, s4, s5, s6, s7, s8, s9, sa, sb, sc] ↔ (s0 <= 2 /\ ((s1 = 6 \/ s1 = 17) \/ s1 = 0 \/ s1 = 1) /\ (pfR s4 s5 /\ pfR s6 s7) /\ (s8 <= s9 /\ sa <= sb) /\ ((s1 = 6 \/ s1 = 17) \/ ((s8 = 0 /\ s9 = 65535) /\ (sa = 0 /\ sb = 65535))) /\ (s2 <= 63 /\ bitsI .andNot .u8 s3 s2 = 0 /\ (s2 = 0 \/ s1 = 6))) := by
   rw [SW hs2]; exact Iff.rfl
  have g2 := u8r hs2
  have e5 : (i2b A || i2b B) = true ↔ bitsI .andNot .u8 s3 s2 = 0 := by
   rcases z5 with ⟨rfl, h⟩ | ⟨rfl, rfl, h⟩
   ·exact ⟨fun _ => h, fun _ => rfl⟩
   ·exact ⟨fun h' => (by cases h'), fun h' => absurd h' h⟩
  refine hX _ ?_
  rw [hr, Bool.and_eq_true, Bool.and_eq_true, Bool.and_eq_true, e5]
  have c1 : (!(decide (2 < s0) || s1 != 0 && s1 != 1 && s1 != 6 && s1 != 17)) = true ↔ s0 <= 2 /\ ((s1 = 6 \/ s1 = 17) \/ s1 = 0 \/ s1 = 1) := by
   rw [Bool.not_eq_true', Bool.or_eq_false_iff, decide_eq_false_iff_not]
   refine and_congr (by omega) ?_
   by_cases a : s1 = 0 <;> by_cases b : s1 = 1 <;> by_cases c : s1 = 6 <;> by_cases d : s1 = 17 <;> simp [a, b, c, d]
  have c2 : (!(!i2b u1 || !i2b u2 || !i2b u3 || !i2b u4)) = true ↔ (pfR s4 s5 /\ pfR s6 s7) /\ rngP P s8 s9 /\ rngP P sa sb := by
   rw [<- JG z1, <- JG z2, <- JG z3, <- JG z4]
   cases i2b u1 <;> cases i2b u2 <;> cases i2b u3 <;> cases i2b u4 <;> simp
  have c3 : (!(decide (63 < s2) || decide (0 < s2) && s1 != 6)) = true ↔ s2 <= 63 /\ (s2 = 0 \/ s1 = 6) := by
   rw [Bool.not_eq_true', Bool.or_eq_false_iff, decide_eq_false_iff_not]
   refine and_congr (by omega) ?_
   by_cases a : s2 = 0 <;> by_cases b : s1 = 6 <;> simp [a, b] <;> omega
  rw [c1, c2, c3]
  by_cases hp : s1 = 6 \/ s1 = 17
  ·have : P = 1 := by rw [<- hP]; rcases hp with rfl | rfl <;> rfl
   subst this
   unfold rngP
   rw [if_pos rfl, if_pos rfl]
   constructor
   ·rintro ⟨⟨a1, a2⟩, ⟨a3, a4, a5⟩, ⟨a6, a7⟩, a8⟩
    exact ⟨a1, a2, a3, ⟨a4, a5⟩, Or.inl hp, a6, a8, a7⟩
   ·rintro ⟨a1, a2, a3, ⟨a4, a5⟩, _, a6, a8, a7⟩
    exact ⟨⟨a1, a2⟩, ⟨a3, a4, a5⟩, ⟨a6, a7⟩, a8⟩
  ·have : P = 0 := by
    rw [<- hP]
    have h6 : ¬ s1 = 6 := fun h => hp (Or.inl h)
    have h17 : ¬ s1 = 17 := fun h => hp (Or.inr h)
    rw [show (s1 == 6) = false from beq_eq_false_iff_ne.2 h6, show (s1 == 17) = false from beq_eq_false_iff_ne.2 h17]; rfl
   subst this
   unfold rngP
   rw [if_neg (by decide), if_neg (by decide)]
   constructor
   ·rintro ⟨⟨a1, a2⟩, ⟨a3, a4, a5⟩, ⟨a6, a7⟩, a8⟩
    exact ⟨a1, a2, a3, ⟨by omega, by omega⟩, Or.inr ⟨a4, a5⟩, a6, a8, a7⟩
   ·rintro ⟨a1, a2, a3, _, a45, a6, a8, a7⟩
    have a45 := a45.resolve_left hp
    exact ⟨⟨a1, a2⟩, ⟨a3, a45.1, a45.2⟩, ⟨a6, a7⟩, a8⟩
end
end Go.Proofs.YtgpflpbldeflhaaDoor.Ew.Sr
namespace Go.Proofs.YtgpflpbldeflhaaDoor.Ew.Sr
open Go Go.RowKit
theorem SX {A B n : Nat} (hA : A < 4294967296) (hB : B < 4294967296) (hn : n <= 32) : (∀ j, j < n -> A.testBit (31 - j) = B.testBit (31 - j)) ↔ A / 2 ^ (32 - n) = B / 2 ^ (32 - n) := by
 constructor
 ·intro h
  refine Nat.eq_of_testBit_eq fun i => ?_
  rw [Nat.testBit_div_two_pow, Nat.testBit_div_two_pow]
  by_cases c : i + (32 - n) < 32
  ·have := h (31 - (i + (32 - n))) (by omega)
   rw [show 31 - (31 - (i + (32 - n))) = i + (32 - n) by omega] at this
   exact this
  ·have g : ∀ X : Nat, X < 4294967296 -> X.testBit (i + (32 - n)) = false := fun X hX => Nat.testBit_lt_two_pow (Nat.lt_of_lt_of_le hX (by
    show 2 ^ 32 <= _
    exact Nat.pow_le_pow_right (by decide) (by omega)))
   rw [g A hA, g B hB]
 ·intro h j hj
  have := congrArg (fun X => Nat.testBit X (31 - j - (32 - n))) h
  simp only [Nat.testBit_div_two_pow] at this
  rw [show 31 - j - (32 - n) + (32 - n) = 31 - j by omega] at this
  exact this
theorem TN {A B P : Nat} (hP : 0 < P) (hB : B % P = 0) : A / P = B / P ↔ B <= A /\ A <= B + P - 1 := by
 have hb : P * (B / P) = B := by have := Nat.div_add_mod B P; omega
 have h1 := Nat.div_add_mod A P
 have h2 := Nat.mod_lt A hP
 constructor
 ·intro h
  rw [h, hb] at h1
  omega
 ·rintro ⟨h3, h4⟩
  refine Nat.le_antisymm ?_ ?_
  ·refine Nat.le_of_lt_succ ((Nat.div_lt_iff_lt_mul hP).2 ?_)
   rw [Nat.succ_mul, Nat.mul_comm]
   omega
  ·exact Nat.div_le_div_right h3
theorem Me {x k : Nat} (h : x.testBit k = false) (j : Nat) : (x + 2 ^ k).testBit j = (x.testBit j || decide (j = k)) := by
 by_cases c1 : j < k
 ·rw [Nat.add_comm, Nat.testBit_two_pow_add_gt c1, decide_eq_false (by omega), Bool.or_false]
 ·by_cases c2 : j = k
  ·subst c2
   rw [Nat.add_comm, Nat.testBit_two_pow_add_eq, h, decide_eq_true rfl]; rfl
  ·rw [decide_eq_false c2, Bool.or_false]
   have hq := Nat.div_add_mod x (2 ^ (k + 1))
   have hm := Nat.mod_lt x (Nat.two_pow_pos (k + 1))
   have hr : x % 2 ^ (k + 1) < 2 ^ k := by
    refine Nat.lt_pow_two_of_testBit _ fun i hi => ?_
    rw [Nat.testBit_mod_two_pow]
    by_cases e : i = k
    ·rw [e, h, Bool.and_false]
    ·rw [decide_eq_false (by omega), Bool.false_and]
   have e1 : x + 2 ^ k = 2 ^ (k + 1) * (x / 2 ^ (k + 1)) + (x % 2 ^ (k + 1) + 2 ^ k) := by omega
   have e0 : 2 ^ (k + 1) = 2 ^ k * 2 := Nat.pow_succ 2 k
   have hs : x % 2 ^ (k + 1) + 2 ^ k < 2 ^ (k + 1) := by omega
   have e2 : x.testBit j = (2 ^ (k + 1) * (x / 2 ^ (k + 1)) + x % 2 ^ (k + 1)).testBit j := by rw [hq]
   rw [e1, e2, Nat.testBit_two_pow_mul_add _ hs, Nat.testBit_two_pow_mul_add _ hm, if_neg (by omega), if_neg (by omega)]
theorem TP {x k : Nat} (h : x.testBit k = false) (hk : k < 64) (hx : x < 2 ^ 64) : x + 2 ^ k < 2 ^ 64 := by
 refine Nat.lt_pow_two_of_testBit _ fun i hi => ?_
 rw [Me h, decide_eq_false (by omega), Bool.or_false]
 exact Nat.testBit_lt_two_pow (Nat.lt_of_lt_of_le hx (Nat.pow_le_pow_right (by decide) hi))
theorem Qh {R : RL} (h : R.Pairwise fun p q => p.getD 0 0 < q.getD 0 0) : ∀ i j, i < j -> j < R.length -> (R.getD i []).getD 0 0 < (R.getD j []).getD 0 0 := fun i j h1 h2 => CT h h1 h2
def chg (k : Nat) (L : RL) (v : Int) : Prop := v = 0 \/ setF (L.map (spF k)) v 0 z4 ≠ setF (L.map (spF k)) (v - 1) 0 z4
def clsC (k : Nat) (L R : RL) : Prop := R.Pairwise (fun p q => p.getD 0 0 < q.getD 0 0) /\ (∀ r ∈ R, r = r.getD 0 0 :: setF (L.map (spF k)) (r.getD 0 0) 0 z4) /\ ∀ v, (∃ r ∈ R, r.getD 0 0 = v) ↔ 0 <= v /\ v <= lstF k /\ chg k L v
theorem clsC.uniq {k : Nat} {L R R' : RL} (h : clsC k L R) (h' : clsC k L R') : R = R' := by
 have mk : ∀ {R : RL}, clsC k L R -> R = (R.map fun r => r.getD 0 0).map fun v => v :: setF (L.map (spF k)) v 0 z4 := fun {R} h => by
  rw [List.map_map]
  conv => lhs; rw [<- List.map_id R]
  exact List.map_congr_left fun r hr => h.2.1 r hr
 have pw : ∀ {R : RL}, clsC k L R -> (R.map fun r => r.getD 0 0).Pairwise (fun a b => a < b) := fun {R} h => List.pairwise_map.2 h.1
 have e : (R.map fun r => r.getD 0 0) = (R'.map fun r => r.getD 0 0) := by
  refine IK _ _ (pw h) (pw h') fun x => ?_
  rw [List.mem_map, List.mem_map]
  exact (h.2.2 x).trans (h'.2.2 x).symm
 rw [mk h, mk h', e]
theorem cls_C {k : Nat} (hk : k <= 6) {L R : RL} (hL : ruls L) (h : clsP k L R) : clsC k L R := by
 obtain ⟨f1, f2, f3, f4, f5, f6⟩ := h.facts hk hL
 have mono := Qh f4
 obtain ⟨g1, g2, g3, _⟩ := f3
 have lo : ∀ i, i < R.length -> 0 <= (R.getD i []).getD 0 0 := fun i hi => by
  by_cases c : i = 0
  ·rw [c, g2]; exact Int.le_refl _
  ·have := mono 0 i (by omega) hi; omega
 have up : ∀ i, i < R.length -> (R.getD i []).getD 0 0 <= lstF k := fun i hi => by
  by_cases c : i = R.length - 1
  ·rw [c]; exact g3
  ·have := mono i (R.length - 1) (by omega) (by omega)
   have g3 : (R.getD (R.length - 1) []).getD 0 0 <= lstF k := g3
   omega
 have at_ : ∀ (v : Int) (i : Nat), i < R.length -> (R.getD i []).getD 0 0 <= v -> (i + 1 = R.length \/ v < (R.getD (i + 1) []).getD 0 0) -> v <= lstF k -> (R.getD i []).drop 1 = setF (L.map (spF k)) v 0 z4 := fun v i hi h1 h2 h3 => by
  have v0 : 0 <= v := Int.le_trans (lo i hi) h1
  have s := (KH (R := R) (v := v) (n := i + 1) (fun j hj => by
   by_cases c : j = i
   ·rw [c]; exact h1
   ·exact Int.le_trans (Int.le_of_lt (mono j i (by omega) hi)) h1) (fun j hj hl => by
   rcases h2 with h2 | h2
   ·omega
   ·by_cases c : j = i + 1
    ·rw [c]; exact h2
    ·exact Int.lt_trans h2 (mono (i + 1) j (by omega) hl)) (by omega)).2
  rw [if_neg (by omega), Nat.add_sub_cancel] at s
  rw [<- s]; exact (f6 v v0 h3).2
 have row : ∀ i, i < R.length -> R.getD i [] = (R.getD i []).getD 0 0 :: (R.getD i []).drop 1 := fun i hi => by
  obtain ⟨a0, a1, a2, a3, a4, e, _⟩ := AJ f2 hi
  rw [e]; rfl
 have own : ∀ i, i < R.length -> (R.getD i []).drop 1 = setF (L.map (spF k)) ((R.getD i []).getD 0 0) 0 z4 := fun i hi => by
  refine at_ _ i hi (Int.le_refl _) ?_ (up i hi)
  by_cases c : i + 1 = R.length
  ·exact Or.inl c
  ·exact Or.inr (mono i (i + 1) (by omega) (by omega))
 have ix : ∀ r ∈ R, ∃ i, i < R.length /\ R.getD i [] = r := fun r hr => by
  obtain ⟨i, hi, rfl⟩ := List.getElem_of_mem hr
  exact ⟨i, hi, by simp [List.getD, hi]⟩
 refine ⟨f4, fun r hr => ?_, fun v => ⟨?_, ?_⟩⟩
 ·obtain ⟨i, hi, rfl⟩ := ix r hr
  rw [<- own i hi]; exact row i hi
 ·rintro ⟨r, hr, rfl⟩
  obtain ⟨i, hi, rfl⟩ := ix r hr
  refine ⟨lo i hi, up i hi, ?_⟩
  by_cases c : i = 0
  ·exact Or.inl (by rw [c]; exact g2)
  ·refine Or.inr fun hE => ?_
   have h1 := mono (i - 1) i (by omega) hi
   have b := at_ ((R.getD i []).getD 0 0 - 1) (i - 1) (by omega) (by omega) (Or.inr (by rw [show i - 1 + 1 = i by omega]; omega)) (by have := up i hi; omega)
   obtain ⟨_, _, _, q⟩ := SS hk hL h
   exact ((q i hi).2.2.1 (by omega)).2 (by rw [b, own i hi, hE])
 ·rintro ⟨h1, h2, h3⟩
  refine Classical.byContradiction fun hn => ?_
  have hn : ∀ i, i < R.length -> (R.getD i []).getD 0 0 ≠ v := fun i hi e => hn ⟨_, CS hi, e⟩
  have ex : ∀ n, n <= R.length -> (∃ p, p + 1 < n /\ (R.getD p []).getD 0 0 <= v /\ v < (R.getD (p + 1) []).getD 0 0) \/ ∀ i, i < n -> (R.getD i []).getD 0 0 <= v := by
   intro n
   induction n with
   | zero => exact fun _ => Or.inr fun i hi => absurd hi (Nat.not_lt_zero _)
   | succ n ih =>
     intro hn
     rcases ih (by omega) with ⟨p, h1, h2⟩ | h1'
     ·exact Or.inl ⟨p, by omega, h2⟩
     ·by_cases c : (R.getD n []).getD 0 0 <= v
      ·refine Or.inr fun i hi => ?_
       by_cases e : i = n
       ·rw [e]; exact c
       ·exact h1' i (by omega)
      ·cases n with
       | zero => exact absurd (by rw [g2]; exact h1) c
       | succ n => exact Or.inl ⟨n, by omega, h1' n (by omega), by omega⟩
  obtain ⟨p, hp, q1, q2⟩ : ∃ p, p < R.length /\ (R.getD p []).getD 0 0 <= v /\ (p + 1 = R.length \/ v < (R.getD (p + 1) []).getD 0 0) := by
   rcases ex R.length (Nat.le_refl _) with ⟨p, a1, a2, a3⟩ | a1
   ·exact ⟨p, by omega, a2, Or.inr a3⟩
   ·exact ⟨R.length - 1, by omega, a1 _ (by omega), Or.inl (by omega)⟩
  have ne := hn p hp
  rcases h3 with h3 | h3
  ·have := hn 0 g1
   rw [g2] at this
   exact this h3.symm
  ·refine h3 ?_
   rw [<- at_ v p hp q1 q2 h2, <- at_ (v - 1) p hp (by omega) (q2.imp id fun h => by omega) (by omega)]
end Go.Proofs.YtgpflpbldeflhaaDoor.Ew.Sr
set_option maxHeartbeats 8000000
namespace Go.Proofs.YtgpflpbldeflhaaDoor.Ew.Sr
open Go Go.RowKit
noncomputable section
def pIn : List Bool := [true,false,true,false]
def firP (a b n : Int) (i : Nat) : Prop := ∀ j, i <= j -> j < n.toNat -> a.toNat.testBit (31 - j) = b.toNat.testBit (31 - j)
def preIn (xs : List Int) : Prop := 0 <= env xs 2 /\ env xs 2 <= 32 /\ 0 <= env xs 4 /\ env xs 4 <= env xs 2
def Qi (xs ys : List Int) : Prop := (env ys 0 = 1 /\ firP (env xs 0) (env xs 1) (env xs 2) (env xs 4).toNat) \/ (env ys 0 = 0 /\ env ys 1 = 0 /\ ¬ firP (env xs 0) (env xs 1) (env xs 2) (env xs 4).toNat)
def muIn (xs : List Int) : Nat := (env xs 2 - env xs 4).toNat
def lbIn : LEnt := ⟨⟨9088, 999999, [u32, .obj 70 [u32, u8], .sc .b, i64], [], [0], .tup [.sc .b, .sc .b], z0, preIn⟩, [0, 3, 4, 5], [4], (List.range 20).map (· + 5), [.ex 0, .ret], 25, []⟩
def leIn : LEnt := lbIn.fw (fnM Tryd.prog G0 88 pIn lbIn Qi)
def c88 : Ctx := ⟨[], [(88, pIn, leIn)]⟩
def pre88 (xs : List Int) : Prop := pfR (env xs 1) (env xs 2)
def Qj (xs ys : List Int) : Prop := env ys 0 = b2i (decide (env xs 1 <= env xs 0) && decide (env xs 0 <= env xs 1 + psz (env xs 2) - 1))
def b88 : Ent := ⟨88, 88, [u32, .agg [u32, u8]], [], [], .sc .b, z0, pre88⟩
def e88 : Ent := b88.fw (fnG Tryd.prog G0 b88 Qj)
def c78 : Ctx := ⟨[e88], []⟩
def pre78 (xs : List Int) : Prop := rightP (xs.take 13) /\ (0 <= env xs 13 /\ env xs 13 <= 6) /\ 0 <= env xs 14 /\ env xs 14 <= lstF (env xs 13).toNat
def Qk (xs ys : List Int) : Prop := env ys 0 = b2i (inS (spF (env xs 13).toNat (xs.take 13)) (env xs 14))
def b78 : Ent := ⟨7800, 78, [ru, i64, u32], [], [], .sc .b, z0, pre78⟩
def e78 : Ent := b78.fw (fnG Tryd.prog G0 b78 Qk)
def pSe : List Bool := [true,true,false,true,false]
def seB (j : Nat) : Ob := { j := j, ty := 56, cs := [u64, u64, u64, u64] }
def preSe (xs : List Int) : Prop := ruls (dc (env xs 0)) /\ ((0 <= env xs 1 /\ env xs 1 <= 6) /\ 0 <= env xs 2 /\ env xs 2 <= lstF (env xs 1).toNat) /\ (0 <= env xs 7 /\ env xs 7 <= ((dc (env xs 0)).length : Int)) /\ setOK [env xs 3, env xs 4, env xs 5, env xs 6] /\ ∀ i, i < 256 -> bitS [env xs 3, env xs 4, env xs 5, env xs 6] i = (decide (i < (env xs 7).toNat) && inS (spF (env xs 1).toNat ((dc (env xs 0)).getD i [])) (env xs 2))
def Gn (xs ys : List Int) : Prop := ys = setF ((dc (env xs 0)).map (spF (env xs 1).toNat)) (env xs 2) 0 z4
def muSe (xs : List Int) : Nat := (((dc (env xs 0)).length : Int) - env xs 7).toNat
def pre46 (xs : List Int) : Prop := ruls (dc (env xs 0)) /\ (0 <= env xs 1 /\ env xs 1 <= 6) /\ 0 <= env xs 2 /\ env xs 2 <= lstF (env xs 1).toNat
def s4 : Sh := .agg [u64, u64, u64, u64]
def Ql (xs ys : List Int) : Prop := (env ys 0 = 1 /\ chg (env xs 1).toNat (dc (env xs 0)) (env xs 2)) \/ (env ys 0 = 0 /\ ¬ chg (env xs 1).toNat (dc (env xs 0)) (env xs 2))
def cSe : Ctx := ⟨[e78], []⟩
def lbSe : LEnt := ⟨⟨9046, 999999, [lru, i64, u32, .obj 56 [u64, u64, u64, u64], i64], [seB 1], [0], .tup [], z0, preSe⟩, [0, 1, 2, 7, 8], [], (List.range 25).map (· + 8), [.ex 0], 34, []⟩
def leSe : LEnt := lbSe.fw (fnM Tryd.prog G0 46 pSe lbSe Gn)
def c46 : Ctx := ⟨[], [(46, pSe, leSe)]⟩
def b46 : Ent := ⟨4600, 46, [lru, i64, u32], [], [0], s4, z0, pre46⟩
def e46 : Ent := b46.fw (fnG Tryd.prog G0 b46 Gn)
def c45 : Ctx := ⟨[e46], []⟩
def b45 : Ent := ⟨4500, 45, [lru, i64, u32], [], [0], .sc .b, z0, pre46⟩
def e45 : Ent := b45.fw (fnG Tryd.prog G0 b45 Ql)
theorem Iu {q : Int} (hq : IntKind.u64.wrap q = q) {j : Nat} (hj : j < 64) (h : q.toNat.testBit j = false) : IntKind.u64.wrap (q + 2 ^ j) = bitsI .or .u64 q (2 ^ j) := by
 have hq' := hq
 rw [IntKind.wrap_u64] at hq'
 have e : (2 : Int) ^ j = ((2 ^ j : Nat) : Int) := by rw [Int.natCast_pow]; rfl
 have h2 : 2 ^ j <= 2 ^ 63 := Nat.pow_le_pow_right (by omega) (by omega)
 have hl := TP h hj (show q.toNat < 2 ^ 64 by omega)
 have w2 : IntKind.u64.wrap ((2 ^ j : Nat) : Int) = ((2 ^ j : Nat) : Int) := by generalize 2 ^ j = Q at h2; exact u64w (by omega) (by omega)
 have a : q + ((2 ^ j : Nat) : Int) = ((q.toNat + 2 ^ j : Nat) : Int) := by generalize 2 ^ j = Q; omega
 rw [e, or64 hq w2, a, Int.toNat_natCast]
 have b : q.toNat ||| 2 ^ j = q.toNat + 2 ^ j := Nat.eq_of_testBit_eq fun i => by
  rw [Nat.testBit_or, Me h, Nat.testBit_two_pow]
  congr 1
  exact decide_eq_decide.2 eq_comm
 rw [b]
 generalize q.toNat + 2 ^ j = Q at hl
 exact u64w (by omega) (by omega)
theorem Mf {x : Int} (hx : IntKind.u32.wrap x = x) {j : Int} (h0 : 0 <= j) (h1 : j <= 31) : (x.fdiv (2 ^ min j.toNat IntKind.u32.bits)).tmod 2 = b2i (x.toNat.testBit j.toNat) := by
 have g := u32r hx
 rw [show min j.toNat IntKind.u32.bits = j.toNat by show min j.toNat 32 = _; omega, Int.fdiv_eq_ediv_of_nonneg _ (Int.le_of_lt (Int.pow_pos (by decide))), Nat.testBit_eq_decide_div_mod_eq]
 have e : x / 2 ^ j.toNat = ((x.toNat / 2 ^ j.toNat : Nat) : Int) := by
  rw [Int.natCast_ediv, Int.natCast_pow, show ((x.toNat : Nat) : Int) = x by omega]; rfl
 rw [e]
 generalize x.toNat / 2 ^ j.toNat = Q
 rw [Int.tmod_eq_emod_of_nonneg (by omega)]
 by_cases c : Q % 2 = 1
 ·rw [decide_eq_true c]; show (Q : Int) % 2 = 1; omega
 ·rw [decide_eq_false c]; show (Q : Int) % 2 = 0; omega
theorem TQ {x y : Bool} {A B : Int} {X Y S T : Prop} (ih : (A = 1 /\ X) \/ (A = 0 /\ B = 0 /\ Y)) (k1 : x = y -> X -> S) (k2 : Y -> T) (k3 : ¬ x = y -> T) :
 ((if b2i x = b2i y /\ i2b A = true then (1 : Int) else 0) = 1 /\ S) \/ ((if b2i x = b2i y /\ i2b A = true then (1 : Int) else 0) = 0 /\
   (if b2i x = b2i y /\ i2b A = true then B else b2i (!(decide True && b2i x != b2i y) && i2b B)) = 0 /\ T) := by
 have e : b2i x = b2i y ↔ x = y := by cases x <;> cases y <;> decide
 by_cases q : x = y
 ·rcases ih with ⟨rfl, h⟩ | ⟨rfl, rfl, h⟩
  ·rw [if_pos ⟨e.2 q, rfl⟩]; exact Or.inl ⟨rfl, k1 q h⟩
  ·rw [if_neg fun h => absurd h.2 (by decide), if_neg fun h => absurd h.2 (by decide)]
   refine Or.inr ⟨rfl, ?_, k2 h⟩
   rw [show i2b 0 = false from rfl, Bool.and_false]; rfl
 ·rw [if_neg fun h => q (e.1 h.1), if_neg fun h => q (e.1 h.1)]
  refine Or.inr ⟨rfl, ?_, k3 q⟩
  cases x <;> cases y
  ·exact absurd rfl q
  ·rfl
  ·rfl
  ·exact absurd rfl q
theorem okIn : IPz 88 pIn leIn Qi := by
 refine Ctx.OK.nil.loopK (c := cN) muIn true 9088 [] ⟨_, _, _, Tryd.func88, rfl, rfl⟩ ?_
 go_invoke
 refine enK rfl ?_
 intro φ l ρ a ha b hb n hn w hw i hi hp hφ hSS _
 obtain ⟨p1, p2, p3, p4⟩ := hp
 simp only [ewY, seval] at p1 p2 p3 p4
 have wn : IntKind.i64.wrap n = n := i64w (by omega) (by omega)
 by_cases c : i < n
 ·have w0 : IntKind.i64.wrap (i + 1) = i + 1 := i64w (by omega) (by omega)
  have w1 : IntKind.i64.wrap (31 - i) = 31 - i := i64w (by omega) (by omega)
  have z1 := Mf ha (show 0 <= 31 - i by omega) (by omega)
  have z2 := Mf hb (show 0 <= 31 - i by omega) (by omega)
  have yp : lbIn.ent.pre [a, b, n, w, i + 1] := ⟨p1, p2, by show 0 <= i + 1; omega, by show i + 1 <= n; omega⟩
  have ym : muIn [a, b, n, w, i + 1] < muIn [a, b, n, w, i] := by show (n - (i + 1)).toNat < (n - i).toNat; omega
  have ih := hφ [a, b, n, w, i + 1] ⟨ha, hb, hn, hw, w0, trivial⟩ yp ym
  have ej : (31 - i).toNat = 31 - i.toNat := by omega
  refine ⟨?_, ?_⟩ <;> simp (disch := omega) only [ewZ, reduceCtorEq, seval, hSS, wn, c, w0, w1, z1, z2]
  ·exact ⟨by omega, fun _ => ⟨yp, ym⟩⟩
  ·refine TQ ih (fun q h => ?_) (fun h g => h ?_) (fun q g => q ?_)
   ·show firP a b n i.toNat
    intro j h1 h2
    by_cases e : j = i.toNat
    ·rw [e, <- ej]; exact q
    ·exact h j (by show (i + 1).toNat <= j; omega) h2
   ·intro j h1 h2
    have h1 : (i + 1).toNat <= j := h1
    exact g j (by show i.toNat <= j; omega) h2
   ·rw [ej]; exact g i.toNat (Nat.le_refl _) (by show i.toNat < n.toNat; omega)
 ·refine ⟨?_, ?_⟩ <;> simp (disch := omega) only [ewZ, reduceCtorEq, seval, hSS, wn, c]
  ·exact Or.inl ⟨rfl, fun j h1 h2 => by have h1 : i.toNat <= j := h1; have h2 : j < n.toNat := h2; omega⟩
theorem c88ok : c88.OK Tryd.prog G0 := ⟨rfl, mF trivial, mF ⟨okIn.1, trivial⟩⟩
theorem ok88 : EPz e88 Qj := by
 refine c88ok.nm.entryK true [(100009088, leIn.nm.ent)] ?_
 go_invoke
 refine enK rfl ?_
 intro l ρ a ha b hb n hn hp v1 hn1 v2 hn2 hSS hd
 simp (disch := omega) only [and_true, Ent.nm_fn, hSS, ewZ, reduceCtorEq, seval] at hd
 obtain ⟨hd1, hd2⟩ := hd
 obtain ⟨p1, p2, p3⟩ := hp
 simp only [ewY, seval] at p1 p2
 replace p3 : b % psz n = 0 := p3
 have ga := u32r ha
 have gb := u32r hb
 have y : leIn.ent.pre [a, b, n, 0, 0] := ⟨p1, p2, Int.le_refl _, p1⟩
 have z := (PostOK.usf (vs := [v1, v2]) okIn.2 ⟨hd1, hd2, trivial⟩) ⟨ha, hb, hn, rfl, rfl, trivial⟩ y
 have e : firP a b n 0 ↔ b <= a /\ a <= b + psz n - 1 := by
  obtain ⟨P, e1, e2, e3, e4⟩ := Fo p1 p2
  have h1 := SX (A := a.toNat) (B := b.toNat) (n := n.toNat) (by omega) (by omega) (by omega)
  have e5 : 2 ^ (32 - n.toNat) = P := by rw [e2]; congr 1; omega
  rw [e5] at h1
  have e6 : b.toNat % P = 0 := by
   rw [e1] at p3
   have : ((b.toNat % P : Nat) : Int) = b % (P : Int) := by rw [Int.natCast_emod, show ((b.toNat : Nat) : Int) = b by omega]
   omega
  have h2 := TN (A := a.toNat) (show 0 < P by omega) e6
  have h3 : firP a b n 0 ↔ ∀ j, j < n.toNat -> a.toNat.testBit (31 - j) = b.toNat.testBit (31 - j) := ⟨fun h j hj => h j (Nat.zero_le _) hj, fun h j _ hj => h j hj⟩
  rw [h3, h1, h2, e1]
  omega
 replace z : (v1 = 1 /\ firP a b n 0) \/ (v1 = 0 /\ v2 = 0 /\ ¬ firP a b n 0) := z
 rw [e] at z
 refine ⟨?_, ?_⟩ <;> simp (disch := omega) only [ewZ, reduceCtorEq, seval, hSS]
 ·exact y
 ·show b2i (i2b v1 || i2b v2) = b2i (decide (b <= a) && decide (a <= b + psz n - 1))
  rw [<- Bool.decide_and]
  rcases z with ⟨rfl, z⟩ | ⟨rfl, rfl, z⟩
  ·rw [decide_eq_true z]; rfl
  ·rw [decide_eq_false z]; rfl
theorem c78ok : c78.OK Tryd.prog G0 := ⟨rfl, mF ⟨ok88.1, trivial⟩, mF trivial⟩
theorem ok78 : EPz e78 Qk := by
 refine c78ok.entryK true [(88, e88)] ?_
 go_invoke
 refine enK rfl ?_
 intro l ρ s0 hs0 s1 hs1 s2 hs2 s3 hs3 s4 hs4 s5 hs5 s6 hs6 s7 hs7 s8 hs8 s9 hs9 sa hsa sb hsb sc hsc fk hfk v hv hp hSS _
 obtain ⟨p1, p0, p2, p3⟩ := hp
 replace p1 : rightP [s0, s1, s2, s3, s4, s5, s6, s7, s8, s9, sa, sb, sc] := p1
 replace p3 : v <= lstF fk.toNat := p3
 simp only [ewY, seval] at p0 p2
 have y4 : e88.pre [v, s4, s5] := p1.2.2.1.1
 have y6 : e88.pre [v, s6, s7] := p1.2.2.1.2
 have z4 := ok88.2 [v, s4, s5] ⟨hv, hs4, hs5, trivial⟩ y4
 have z6 := ok88.2 [v, s6, s7] ⟨hv, hs6, hs7, trivial⟩ y6
 replace z4 : K.b.norm (e88.fn 0 [v, s4, s5]) = b2i (decide (s4 <= v) && decide (v <= s4 + psz s5 - 1)) := z4
 replace z6 : K.b.norm (e88.fn 0 [v, s6, s7]) = b2i (decide (s6 <= v) && decide (v <= s6 + psz s7 - 1)) := z6
 rcases (show fk = 0 \/ fk = 1 \/ fk = 2 \/ fk = 3 \/ fk = 4 \/ fk = 5 \/ fk = 6 by omega) with rfl | rfl | rfl | rfl | rfl | rfl | rfl
 ·refine ⟨?_, ?_⟩ <;> simp (disch := omega) only [ewZ, reduceCtorEq, seval, hSS]
  ·have g0 := u8r hs0
   have r0 : s0 <= 2 := p1.1
   have w0 : IntKind.u32.wrap s0 = s0 := u32w (by omega) (by omega)
   have p3 : v <= 1 := p3
   rw [w0]
   refine congrArg b2i (Bool.eq_iff_iff.2 ?_)
   show (s0 == 2 || s0 == v) = true ↔ inS (if s0 < 2 then [[s0, s0]] else [[0, 1]]) v = true
   rw [Bool.or_eq_true, beq_iff_eq, beq_iff_eq]
   by_cases c : s0 < 2
   ·rw [if_pos c, BM]; omega
   ·rw [if_neg c, BM]; omega
 ·refine ⟨?_, ?_⟩ <;> simp (disch := omega) only [ewZ, reduceCtorEq, seval, hSS]
  ·have g1 := u8r hs1
   have r1 : (s1 = 6 \/ s1 = 17) \/ (s1 = 0 \/ s1 = 1) := p1.2.1
   have p3 : v <= 2 := p3
   refine congrArg b2i (Bool.eq_iff_iff.2 ?_)
   show (s1 == 0 || s1 == 1 && v == 0 || s1 == 6 && v == 1 || s1 == 17 && v == 2) = true ↔ inS (if s1 = 1 then [[0, 0]] else if s1 = 6 then [[1, 1]] else if s1 = 17 then [[2, 2]] else [[0, 2]]) v = true
   simp only [Bool.or_eq_true, Bool.and_eq_true, beq_iff_eq]
   rcases r1 with (rfl | rfl) | (rfl | rfl)
   ·rw [if_neg (by decide), if_pos rfl, BM]; omega
   ·rw [if_neg (by decide), if_neg (by decide), if_pos rfl, BM]; omega
   ·rw [if_neg (by decide), if_neg (by decide), if_neg (by decide), BM]; omega
   ·rw [if_pos rfl, BM]; omega
 ·refine ⟨?_, ?_⟩ <;> simp (disch := omega) only [ewZ, reduceCtorEq, seval, hSS]
  ·exact y4
  ·refine z4.trans (congrArg b2i (Bool.eq_iff_iff.2 ?_))
   show _ ↔ inS [[s4, s4 + psz s5 - 1]] v = true
   rw [BM, Bool.and_eq_true, decide_eq_true_eq, decide_eq_true_eq]
 ·refine ⟨?_, ?_⟩ <;> simp (disch := omega) only [ewZ, reduceCtorEq, seval, hSS]
  ·exact y6
  ·refine z6.trans (congrArg b2i (Bool.eq_iff_iff.2 ?_))
   show _ ↔ inS [[s6, s6 + psz s7 - 1]] v = true
   rw [BM, Bool.and_eq_true, decide_eq_true_eq, decide_eq_true_eq]
 ·refine ⟨?_, ?_⟩ <;> simp (disch := omega) only [ewZ, reduceCtorEq, seval, hSS]
  ·have g8 := u16r hs8
   have g9 := u16r hs9
   rw [u32w (z := s8) (by omega) (by omega), u32w (z := s9) (by omega) (by omega)]
   refine congrArg b2i (Bool.eq_iff_iff.2 ?_)
   show _ ↔ inS [[s8, s9]] v = true
   rw [BM, Bool.and_eq_true, decide_eq_true_eq, decide_eq_true_eq]
 ·refine ⟨?_, ?_⟩ <;> simp (disch := omega) only [ewZ, reduceCtorEq, seval, hSS]
  ·have g8 := u16r hsa
   have g9 := u16r hsb
   rw [u32w (z := sa) (by omega) (by omega), u32w (z := sb) (by omega) (by omega)]
   refine congrArg b2i (Bool.eq_iff_iff.2 ?_)
   show _ ↔ inS [[sa, sb]] v = true
   rw [BM, Bool.and_eq_true, decide_eq_true_eq, decide_eq_true_eq]
 ·refine ⟨?_, ?_⟩ <;> simp (disch := omega) only [ewZ, reduceCtorEq, seval, hSS]
  ·have p3 : v <= 63 := p3
   rw [u8w (z := v) (by omega) (by omega)]
   refine congrArg b2i (Bool.eq_iff_iff.2 ?_)
   show _ ↔ inS (flL s2 s3 (List.range 64)) v = true
   rw [TG, beq_iff_eq]
   constructor
   ·intro h
    refine ⟨v.toNat, by omega, ?_, by omega⟩
    unfold flW
    rw [show ((v.toNat : Nat) : Int) = v by omega]
    exact decide_eq_true h
   ·rintro ⟨u, _, h, rfl⟩
    unfold flW at h
    exact of_decide_eq_true h
theorem SY {k : Nat} {L : RL} (hL : ruls L) {v : Int} {s : List Int} (hs : setOK s) (h : ∀ i, i < 256 -> bitS s i = (decide (i < L.length) && inS (spF k (L.getD i [])) v)) : s = setF (L.map (spF k)) v 0 z4 := by
 have lA : (L.map (spF k)).length <= 256 := by rw [List.length_map]; exact hL.1
 refine GH hs (CI lA v).1 fun i hi => ?_
 rw [h i hi, (CI lA v).2.1, List.getD_eq_getElem?_getD (l := L.map (spF k)), List.getElem?_map]
 by_cases c : i < L.length
 ·rw [decide_eq_true c, Bool.true_and, List.getElem?_eq_getElem c, List.getD_eq_getElem?_getD, List.getElem?_eq_getElem c]; rfl
 ·rw [decide_eq_false c, Bool.false_and, List.getElem?_eq_none (by omega)]; rfl
theorem cSeok : cSe.OK Tryd.prog G0 := ⟨rfl, mF ⟨ok78.1, trivial⟩, mF trivial⟩
theorem okSe : IPz 46 pSe leSe Gn := by
 refine cSeok.nm.loopK muSe true 9046 [(100007800, e78.nm)] ⟨_, _, _, Tryd.func46, rfl, rfl⟩ ?_
 go_invoke
 refine enK rfl ?_
 intro φ l ρ L fk hfk v hv q0 hq0 q1 hq1 q2 hq2 q3 hq3 i hi hp hφ v1 hn1 hSS hd1
 simp (disch := omega) only [and_true, Ent.nm_fn, hSS, ewZ, reduceCtorEq, seval] at hd1
 obtain ⟨p1, p2, p3, p4, p5⟩ := hp
 replace p1 : ruls (dc L) := p1
 replace p2 : (0 <= fk /\ fk <= 6) /\ 0 <= v /\ v <= lstF fk.toNat := p2
 replace p4 : setOK [q0, q1, q2, q3] := p4
 replace p5 : ∀ j, j < 256 -> bitS [q0, q1, q2, q3] j = (decide (j < i.toNat) && inS (spF fk.toNat ((dc L).getD j [])) v) := p5
 simp only [ewY, seval] at p3
 have hl := p1.1
 have wL : IntKind.i64.wrap ((dc L).length : Int) = ((dc L).length : Int) := i64w (by omega) (by omega)
 by_cases c : i < ((dc L).length : Int)
 ·obtain ⟨r, er, hr, hmm, hdr⟩ := AK (ks := ruK) (c := L) (fun r h => (p1.2 r h).1) p3.1 c
  have hR := (p1.2 _ hmm).2
  obtain ⟨r0, g0, r1, g1, r2, g2, r3, g3, r4, g4, r5, g5, r6, g6, r7, g7, r8, g8, r9, g9, ra, ga, rb, gb, rc, gc, rfl⟩ := Bj hr
  simp only [AH] at g0 g1 g2 g3 g4 g5 g6 g7 g8 g9 ga gb
  simp (disch := omega) only [ewZ, reduceCtorEq, seval, er, g0, g1, g2, g3, g4, g5, g6, g7, g8, g9, ga, gb, gc] at hd1
  have y0 : e78.pre [r0, r1, r2, r3, r4, r5, r6, r7, r8, r9, ra, rb, rc, fk, v] := ⟨hR, p2⟩
  have z := PostOK.use (vs := [v1]) ok78.2 rfl rfl ⟨hd1, trivial⟩ (by exact ⟨g0, g1, g2, g3, g4, g5, g6, g7, g8, g9, ga, gb, gc, hfk, hv, trivial⟩) y0
  replace z : v1 = b2i (inS (spF fk.toNat [r0, r1, r2, r3, r4, r5, r6, r7, r8, r9, ra, rb, rc]) v) := z
  have nx : ∀ a0 a1 a2 a3 : Int, [a0, a1, a2, a3] = (if inS (spF fk.toNat [r0, r1, r2, r3, r4, r5, r6, r7, r8, r9, ra, rb, rc]) v = true then orB i.toNat [q0, q1, q2, q3] else [q0, q1, q2, q3]) -> IntKind.u64.wrap a0 = a0 -> IntKind.u64.wrap a1 = a1 -> IntKind.u64.wrap a2 = a2 -> IntKind.u64.wrap a3 = a3 ->
   (lbSe.ent.pre [L, fk, v, a0, a1, a2, a3, i + 1] /\ muSe [L, fk, v, a0, a1, a2, a3, i + 1] < muSe [L, fk, v, q0, q1, q2, q3, i]) /\
   Gn [L, fk, v, q0, q1, q2, q3, i] [IntKind.u64.wrap (φ 0 [L, fk, v, a0, a1, a2, a3, i + 1]), IntKind.u64.wrap (φ 1 [L, fk, v, a0, a1, a2, a3, i + 1]), IntKind.u64.wrap (φ 2 [L, fk, v, a0, a1, a2, a3, i + 1]), IntKind.u64.wrap (φ 3 [L, fk, v, a0, a1, a2, a3, i + 1])] := fun a0 a1 a2 a3 h w0 w1 w2 w3 => by
   have ok : setOK [a0, a1, a2, a3] := by
    rw [h]; split
    ·exact p4.orb _
    ·exact p4
   have bt : ∀ j, j < 256 -> bitS [a0, a1, a2, a3] j = (decide (j < (i + 1).toNat) && inS (spF fk.toNat ((dc L).getD j [])) v) := fun j hj => by
    rw [h]
    by_cases e : j = i.toNat
    ·have er' : (dc L).getD j [] = [r0, r1, r2, r3, r4, r5, r6, r7, r8, r9, ra, rb, rc] := by rw [e]; exact er
     rw [er', decide_eq_true (show j < (i + 1).toNat by omega), Bool.true_and]
     by_cases hs : inS (spF fk.toNat [r0, r1, r2, r3, r4, r5, r6, r7, r8, r9, ra, rb, rc]) v = true
     ·rw [if_pos hs, hs, Fp p4 (by omega), decide_eq_true e]; rfl
     ·rw [if_neg hs, p5 j hj, decide_eq_false (by omega), Bool.false_and]
      exact (Bool.not_eq_true _ ▸ hs).symm
    ·have ed : decide (j < (i + 1).toNat) = decide (j < i.toNat) := decide_eq_decide.2 (by omega)
     rw [ed, <- p5 j hj]
     split
     ·rw [Fp p4 (by omega), decide_eq_false e, Bool.false_or]
     ·rfl
   have yp : lbSe.ent.pre [L, fk, v, a0, a1, a2, a3, i + 1] := ⟨p1, p2, ⟨by show 0 <= i + 1; omega, by show i + 1 <= ((dc L).length : Int); omega⟩, ok, bt⟩
   have ym : muSe [L, fk, v, a0, a1, a2, a3, i + 1] < muSe [L, fk, v, q0, q1, q2, q3, i] := by show (((dc L).length : Int) - (i + 1)).toNat < (((dc L).length : Int) - i).toNat; omega
   exact ⟨⟨yp, ym⟩, hφ [L, fk, v, a0, a1, a2, a3, i + 1] ⟨rfl, hfk, hv, w0, w1, w2, w3, i64w (by omega) (by omega), trivial⟩ yp ym⟩
  subst z
  have w0 : IntKind.i64.wrap (i + 1) = i + 1 := i64w (by omega) (by omega)
  by_cases hs : inS (spF fk.toNat [r0, r1, r2, r3, r4, r5, r6, r7, r8, r9, ra, rb, rc]) v = true
  ·obtain ⟨D, hD⟩ : ∃ D, i / 64 = D := ⟨_, rfl⟩
   have e1 : i.tdiv 64 = D := by rw [Int.tdiv_eq_ediv_of_nonneg p3.1]; exact hD
   have e2 : IntKind.i64.wrap D = D := i64w (by omega) (by omega)
   have e3 : IntKind.u8.wrap D = D := u8w (by omega) (by omega)
   have e4 : D.tmod 4 = D := by rw [Int.tmod_eq_emod_of_nonneg (by omega)]; omega
   have e6 : i.tmod 64 = i % 64 := Int.tmod_eq_emod_of_nonneg p3.1
   obtain ⟨B, hB⟩ : ∃ B : Int, (2 : Int) ^ (i.toNat % 64) = B := ⟨_, rfl⟩
   have e5 : IntKind.u64.wrap (1 * 2 ^ min (i % 64).toNat IntKind.u64.bits) = B := by
    rw [show min (i % 64).toNat IntKind.u64.bits = i.toNat % 64 by show min (i % 64).toNat 64 = _; omega, Int.one_mul, <- hB]
    have h1 : (2 : Int) ^ (i.toNat % 64) = ((2 ^ (i.toNat % 64) : Nat) : Int) := by rw [Int.natCast_pow]; rfl
    have h2 : 2 ^ (i.toNat % 64) <= 2 ^ 63 := Nat.pow_le_pow_right (by omega) (by omega)
    rw [h1]
    obtain ⟨Q, hQ⟩ : ∃ Q, 2 ^ (i.toNat % 64) = Q := ⟨_, rfl⟩
    rw [hQ] at h2 ⊢
    rw [u64w (by omega) (by omega)]
   have hor : orB i.toNat [q0, q1, q2, q3] = [q0, q1, q2, q3].set D.toNat (bitsI .or .u64 ([q0, q1, q2, q3].getD D.toNat 0) B) := by
    unfold orB
    rw [hB, show i.toNat / 64 = D.toNat by omega]
   have clr : ([q0, q1, q2, q3].getD D.toNat 0).toNat.testBit (i.toNat % 64) = false := by
    have := p5 i.toNat (by omega)
    rw [decide_eq_false (Nat.lt_irrefl _), Bool.false_and] at this
    unfold bitS at this
    rw [show i.toNat / 64 = D.toNat by omega] at this
    exact this
   have ww : ∀ a b : Int, IntKind.u64.wrap (bitsI .or .u64 a b) = bitsI .or .u64 a b := fun a b => As _ _
   have hm : 0 <= i % 64 := by omega
   rw [if_pos hs, hor] at nx
   rcases (show D = 0 \/ D = 1 \/ D = 2 \/ D = 3 by omega) with rfl | rfl | rfl | rfl
   ·have ad : IntKind.u64.wrap (q0 + B) = bitsI .or .u64 q0 B := by rw [<- hB]; exact Iu hq0 (by omega) clr
    have z := nx (bitsI .or .u64 q0 B) q1 q2 q3 rfl (ww _ _) hq1 hq2 hq3
    refine ⟨?_, ?_⟩ <;> simp (disch := omega) only [ewZ, reduceCtorEq, seval, hSS, wL, c, er, g0, g1, g2, g3, g4, g5, g6, g7, g8, g9, ga, gb, gc, hs, BA, e1, e2, e3, e4, e5, e6, ad, Int.reduceEq, if_true, if_false]
    ·exact ⟨⟨p3.1, y0, hm⟩, z.1⟩
    ·exact z.2
   ·have ad : IntKind.u64.wrap (q1 + B) = bitsI .or .u64 q1 B := by rw [<- hB]; exact Iu hq1 (by omega) clr
    have z := nx q0 (bitsI .or .u64 q1 B) q2 q3 rfl hq0 (ww _ _) hq2 hq3
    refine ⟨?_, ?_⟩ <;> simp (disch := omega) only [ewZ, reduceCtorEq, seval, hSS, wL, c, er, g0, g1, g2, g3, g4, g5, g6, g7, g8, g9, ga, gb, gc, hs, BA, e1, e2, e3, e4, e5, e6, ad, Int.reduceEq, if_true, if_false]
    ·exact ⟨⟨p3.1, y0, hm⟩, z.1⟩
    ·exact z.2
   ·have ad : IntKind.u64.wrap (q2 + B) = bitsI .or .u64 q2 B := by rw [<- hB]; exact Iu hq2 (by omega) clr
    have z := nx q0 q1 (bitsI .or .u64 q2 B) q3 rfl hq0 hq1 (ww _ _) hq3
    refine ⟨?_, ?_⟩ <;> simp (disch := omega) only [ewZ, reduceCtorEq, seval, hSS, wL, c, er, g0, g1, g2, g3, g4, g5, g6, g7, g8, g9, ga, gb, gc, hs, BA, e1, e2, e3, e4, e5, e6, ad, Int.reduceEq, if_true, if_false]
    ·exact ⟨⟨p3.1, y0, hm⟩, z.1⟩
    ·exact z.2
   ·have ad : IntKind.u64.wrap (q3 + B) = bitsI .or .u64 q3 B := by rw [<- hB]; exact Iu hq3 (by omega) clr
    have z := nx q0 q1 q2 (bitsI .or .u64 q3 B) rfl hq0 hq1 hq2 (ww _ _)
    refine ⟨?_, ?_⟩ <;> simp (disch := omega) only [ewZ, reduceCtorEq, seval, hSS, wL, c, er, g0, g1, g2, g3, g4, g5, g6, g7, g8, g9, ga, gb, gc, hs, BA, e1, e2, e3, e4, e5, e6, ad, Int.reduceEq, if_true, if_false]
    ·exact ⟨⟨p3.1, y0, hm⟩, z.1⟩
    ·exact z.2
  ·have z := nx q0 q1 q2 q3 (by rw [if_neg hs]) hq0 hq1 hq2 hq3
   rw [Bool.not_eq_true] at hs
   refine ⟨?_, ?_⟩ <;> simp (disch := omega) only [ewZ, reduceCtorEq, seval, hSS, wL, c, er, g0, g1, g2, g3, g4, g5, g6, g7, g8, g9, ga, gb, gc, hs, BA]
   ·exact ⟨⟨p3.1, y0⟩, z.1⟩
   ·exact z.2
 ·refine ⟨?_, ?_⟩ <;> simp (disch := omega) only [ewZ, reduceCtorEq, seval, hSS, wL, c]
  ·show [q0, q1, q2, q3] = setF ((dc L).map (spF fk.toNat)) v 0 z4
   exact SY p1 p4 fun j hj => by rw [p5 j hj, show i.toNat = (dc L).length by omega]
theorem c46ok : c46.OK Tryd.prog G0 := ⟨rfl, mF trivial, mF ⟨okSe.1, trivial⟩⟩
theorem ok46 : EPz e46 Gn := by
 refine c46ok.nm.entryK true [(100009046, leSe.nm.ent)] ?_
 go_invoke
 refine enK rfl ?_
 intro l ρ L fk hfk v hv hp v1 hn1 v2 hn2 v3 hn3 v4 hn4 hSS hd
 simp (disch := omega) only [and_true, Ent.nm_fn, hSS, ewZ, reduceCtorEq, seval] at hd
 obtain ⟨hd1, hd2, hd3, hd4⟩ := hd
 obtain ⟨p1, p2⟩ := hp
 have y : leSe.ent.pre [L, fk, v, 0, 0, 0, 0, 0] := ⟨p1, p2, ⟨Int.le_refl _, Int.natCast_nonneg _⟩, Nj, fun j hj => by
  show bitS z4 j = _
  rw [IJ]; rfl⟩
 have z := (PostOK.usf (vs := [v1, v2, v3, v4]) okSe.2 ⟨hd1, hd2, hd3, hd4, trivial⟩) ⟨rfl, hfk, hv, rfl, rfl, rfl, rfl, rfl, trivial⟩ y
 refine ⟨?_, ?_⟩ <;> simp (disch := omega) only [ewZ, reduceCtorEq, seval, hSS]
 ·exact y
 ·exact z
theorem c45ok : c45.OK Tryd.prog G0 := ⟨rfl, mF ⟨ok46.1, trivial⟩, mF trivial⟩
theorem ok45 : EPz e45 Ql := by
 refine c45ok.entryK true [(4600, e46)] ?_
 go_invoke
 refine enK rfl ?_
 intro l ρ L fk hfk v hv hp hSS _
 obtain ⟨p1, p0, p2, p3⟩ := hp
 replace p1 : ruls (dc L) := p1
 replace p3 : v <= lstF fk.toNat := p3
 simp only [ewY, seval] at p0 p2
 by_cases c : v = 0
 ·subst c
  refine ⟨?_, ?_⟩ <;> simp (disch := omega) only [ewZ, reduceCtorEq, seval, hSS]
  ·exact Or.inl ⟨rfl, Or.inl rfl⟩
 ·have w1 : IntKind.u32.wrap (v - 1) = v - 1 := by have := u32r hv; exact u32w (by omega) (by omega)
  have y1 : e46.pre [L, fk, v] := ⟨p1, p0, p2, p3⟩
  have y2 : e46.pre [L, fk, v - 1] := ⟨p1, p0, by show 0 <= v - 1; omega, by show v - 1 <= lstF fk.toNat; omega⟩
  have z1 := ok46.2 [L, fk, v] ⟨rfl, hfk, hv, trivial⟩ y1
  have z2 := ok46.2 [L, fk, v - 1] ⟨rfl, hfk, w1, trivial⟩ y2
  obtain ⟨x0, hx0⟩ : ∃ x, IntKind.u64.wrap (e46.fn 0 [L, fk, v]) = x := ⟨_, rfl⟩
  obtain ⟨x1, hx1⟩ : ∃ x, IntKind.u64.wrap (e46.fn 1 [L, fk, v]) = x := ⟨_, rfl⟩
  obtain ⟨x2, hx2⟩ : ∃ x, IntKind.u64.wrap (e46.fn 2 [L, fk, v]) = x := ⟨_, rfl⟩
  obtain ⟨x3, hx3⟩ : ∃ x, IntKind.u64.wrap (e46.fn 3 [L, fk, v]) = x := ⟨_, rfl⟩
  obtain ⟨t0, ht0⟩ : ∃ x, IntKind.u64.wrap (e46.fn 0 [L, fk, v - 1]) = x := ⟨_, rfl⟩
  obtain ⟨t1, ht1⟩ : ∃ x, IntKind.u64.wrap (e46.fn 1 [L, fk, v - 1]) = x := ⟨_, rfl⟩
  obtain ⟨t2, ht2⟩ : ∃ x, IntKind.u64.wrap (e46.fn 2 [L, fk, v - 1]) = x := ⟨_, rfl⟩
  obtain ⟨t3, ht3⟩ : ∃ x, IntKind.u64.wrap (e46.fn 3 [L, fk, v - 1]) = x := ⟨_, rfl⟩
  replace z1 : [x0, x1, x2, x3] = setF ((dc L).map (spF fk.toNat)) v 0 z4 := by rw [<- hx0, <- hx1, <- hx2, <- hx3]; exact z1
  replace z2 : [t0, t1, t2, t3] = setF ((dc L).map (spF fk.toNat)) (v - 1) 0 z4 := by rw [<- ht0, <- ht1, <- ht2, <- ht3]; exact z2
  refine ⟨?_, ?_⟩
  ·simp (disch := omega) only [ewZ, reduceCtorEq, seval, hSS, c, w1]
   exact ⟨y1, y2⟩
  ·simp (disch := omega) only [ewZ, reduceCtorEq, seval, hSS, c, w1, hx0, hx1, hx2, hx3, ht0, ht1, ht2, ht3]
   show (b2i (v == 0 || !(x0 == t0 && (x1 == t1 && (x2 == t2 && x3 == t3)))) = 1 /\ chg fk.toNat (dc L) v) \/ (b2i (v == 0 || !(x0 == t0 && (x1 == t1 && (x2 == t2 && x3 == t3)))) = 0 /\ ¬ chg fk.toNat (dc L) v)
   rw [beq_eq_false_iff_ne.2 c, Bool.false_or]
   by_cases e : [x0, x1, x2, x3] = [t0, t1, t2, t3]
   ·have e' := e
    simp only [List.cons.injEq, and_true] at e'
    rw [e'.1, e'.2.1, e'.2.2.1, e'.2.2.2]
    refine Or.inr ⟨?_, fun h => h.elim c fun h => h (z1.symm.trans (e.trans z2))⟩
    simp only [beq_self_eq_true, Bool.and_self, Bool.not_true]; rfl
   ·refine Or.inl ⟨?_, Or.inr fun h => e (z1.trans (h.trans z2.symm))⟩
    have : (x0 == t0 && (x1 == t1 && (x2 == t2 && x3 == t3))) = false := by
     rw [Bool.eq_false_iff]
     intro h
     simp only [Bool.and_eq_true, beq_iff_eq] at h
     exact e (by rw [h.1, h.2.1, h.2.2.1, h.2.2.2])
    rw [this]; rfl
end
end Go.Proofs.YtgpflpbldeflhaaDoor.Ew.Sr
set_option maxHeartbeats 8000000
namespace Go.Proofs.YtgpflpbldeflhaaDoor.Ew.Sr
open Go Go.RowKit
noncomputable section
def pCs : List Bool := [true,true,true,false,true,false,false,true,false]
def numR (a b : Nat) : RL := ((List.range b).drop a).map fun j : Nat => ([(j : Int)] : List Int)
def preCs (xs : List Int) : Prop := 0 <= env xs 1 /\ env xs 1 <= 63 /\ 0 <= env xs 2 /\ env xs 2 <= env xs 1 + 1 /\ ((dc (env xs 0)).length : Int) <= env xs 2
def Qm (xs ys : List Int) : Prop := dc (env ys 0) = dc (env xs 0) ++ numR (env xs 2).toNat (env xs 1 + 1).toNat
def muCs (xs : List Int) : Nat := (env xs 1 + 1 - env xs 2).toNat
def lbCs : LEnt := ⟨⟨9044, 999999, [lu, u32, u32], [], [], .tup [lu], z0, preCs⟩, [5, 6, 8], [5], [8] ++ (List.range 9).map (· + 19), [.ex 0], 140, []⟩
def leCs : LEnt := lbCs.fw (fnM Tryd.prog G0 44 pCs lbCs Qm)
def pCb : List Bool := [true,true,true,true,true,false,true,false]
def preCb (k : Nat) (xs : List Int) : Prop := ruls (dc (env xs 0)) /\ env xs 2 = lstF k /\ 0 <= env xs 3 /\ env xs 3 <= ((dc (env xs 0)).length : Int) /\ ((dc (env xs 1)).length : Int) <= 1 + 2 * env xs 3
def Iv (k : Nat) (xs ys : List Int) : Prop := dc (env ys 0) = dc (env xs 1) ++ brL (lstF k) (((dc (env xs 0)).drop (env xs 3).toNat).flatMap (spF k))
def muCb (xs : List Int) : Nat := (((dc (env xs 0)).length : Int) - env xs 3).toNat
def candF (k : Nat) (L : RL) : RL := if lstF k < 64 then numR 0 (lstF k + 1).toNat else [0] :: brL (lstF k) (L.flatMap (spF k))
def pre44 (xs : List Int) : Prop := ruls (dc (env xs 0))
def DW (k : Nat) (xs ys : List Int) : Prop := dc (env ys 0) = candF k (dc (env xs 0))
def JH : LEnt := ⟨⟨11144, 999999, [lru, fl 2, lu, u32, i64], [], [0], .tup [lu], z0, preCb 2⟩, [0, 1, 5, 6, 9], [5], [9, 10, 11] ++ (List.range 107).map (· + 32), [.ex 2], 140, []⟩
def KQ := Iv 2
def leCb2 : LEnt := JH.fw (fnM Tryd.prog G0 44 pCb JH KQ)
def JI : LEnt := ⟨⟨12144, 999999, [lru, fl 3, lu, u32, i64], [], [0], .tup [lu], z0, preCb 3⟩, [0, 1, 5, 6, 9], [5], [9, 10, 11] ++ (List.range 107).map (· + 32), [.ex 2], 140, []⟩
def KR := Iv 3
def leCb3 : LEnt := JI.fw (fnM Tryd.prog G0 44 pCb JI KR)
def JJ : LEnt := ⟨⟨13144, 999999, [lru, fl 4, lu, u32, i64], [], [0], .tup [lu], z0, preCb 4⟩, [0, 1, 5, 6, 9], [5], [9, 10, 11] ++ (List.range 107).map (· + 32), [.ex 2], 140, []⟩
def KS := Iv 4
def leCb4 : LEnt := JJ.fw (fnM Tryd.prog G0 44 pCb JJ KS)
def JK : LEnt := ⟨⟨14144, 999999, [lru, fl 5, lu, u32, i64], [], [0], .tup [lu], z0, preCb 5⟩, [0, 1, 5, 6, 9], [5], [9, 10, 11] ++ (List.range 107).map (· + 32), [.ex 2], 140, []⟩
def KT := Iv 5
def leCb5 : LEnt := JK.fw (fnM Tryd.prog G0 44 pCb JK KT)
def c440 : Ctx := ⟨[], [(44, pCs, leCs)]⟩
def b440 : Ent := ⟨4400, 44, [lru, fl 0], [], [0], lu, z0, pre44⟩
def Qn := DW 0
def e440 : Ent := b440.fw (fnG Tryd.prog G0 b440 Qn)
def c441 : Ctx := ⟨[], [(44, pCs, leCs)]⟩
def b441 : Ent := ⟨4401, 44, [lru, fl 1], [], [0], lu, z0, pre44⟩
def Qo := DW 1
def e441 : Ent := b441.fw (fnG Tryd.prog G0 b441 Qo)
def c442 : Ctx := ⟨[], [(44, pCb, leCb2)]⟩
def b442 : Ent := ⟨4402, 44, [lru, fl 2], [], [0], lu, z0, pre44⟩
def Qp := DW 2
def e442 : Ent := b442.fw (fnG Tryd.prog G0 b442 Qp)
def c443 : Ctx := ⟨[], [(44, pCb, leCb3)]⟩
def b443 : Ent := ⟨4403, 44, [lru, fl 3], [], [0], lu, z0, pre44⟩
def Qq := DW 3
def e443 : Ent := b443.fw (fnG Tryd.prog G0 b443 Qq)
def c444 : Ctx := ⟨[], [(44, pCb, leCb4)]⟩
def b444 : Ent := ⟨4404, 44, [lru, fl 4], [], [0], lu, z0, pre44⟩
def Qr := DW 4
def e444 : Ent := b444.fw (fnG Tryd.prog G0 b444 Qr)
def c445 : Ctx := ⟨[], [(44, pCb, leCb5)]⟩
def b445 : Ent := ⟨4405, 44, [lru, fl 5], [], [0], lu, z0, pre44⟩
def Qs := DW 5
def e445 : Ent := b445.fw (fnG Tryd.prog G0 b445 Qs)
def c446 : Ctx := ⟨[], [(44, pCs, leCs)]⟩
def b446 : Ent := ⟨4406, 44, [lru, fl 6], [], [0], lu, z0, pre44⟩
def Qt := DW 6
def e446 : Ent := b446.fw (fnG Tryd.prog G0 b446 Qt)
def pSr : List Bool := [true,true,false,true,false]
def preSr (xs : List Int) : Prop := dc (env xs 0) = dc (env xs 1) /\ rowsOK ruK (dc (env xs 0)) /\ ((dc (env xs 0)).length : Int) <= 1000000 /\ 0 <= env xs 2 /\ env xs 2 <= ((dc (env xs 0)).length : Int)
def lbSr : LEnt := ⟨⟨9027, 999999, [lru, lru, i64], [], [0, 1], .tup [], z0, preSr⟩, [0, 1, 5], [], [5] ++ (List.range 15).map (· + 11), [.ex 0], 26, []⟩
def leSr : LEnt := lbSr.fw (fnM Tryd.prog G0 27 pSr lbSr T2s)
def c27 : Ctx := ⟨[], [(27, pSr, leSr)]⟩
def pre27 (xs : List Int) : Prop := dc (env xs 0) = dc (env xs 1) /\ rowsOK ruK (dc (env xs 0)) /\ ((dc (env xs 0)).length : Int) <= 1000000
def b27 : Ent := ⟨27, 27, [lru, lru], [], [0, 1], .lt .b 1, z0, pre27⟩
def e27 : Ent := b27.fw (fnG Tryd.prog G0 b27 T2s)
theorem Qu {a b : Nat} (h : a < b) : numR a b = [(a : Int)] :: numR (a + 1) b := by
 unfold numR
 rw [List.drop_eq_getElem_cons (by rw [List.length_range]; exact h), List.getElem_range]; rfl
theorem Rh {a b : Nat} (h : b <= a) : numR a b = [] := by
 unfold numR; rw [List.drop_eq_nil_of_le (by rw [List.length_range]; exact h)]; rfl
theorem okCs : IPz 44 pCs leCs Qm := by
 refine Ctx.OK.nil.loopK (c := cN) muCs true 9044 [] ⟨_, _, _, Tryd.func44, rfl, rfl⟩ ?_
 go_invoke
 refine enK rfl ?_
 intro φ l ρ A m hm v hv hp hφ hSS _
 obtain ⟨p1, p2, p3, p4, p5⟩ := hp
 simp only [ewY, seval] at p1 p2 p3 p4 p5
 by_cases c : v <= m
 ·have w0 : IntKind.u32.wrap (v + 1) = v + 1 := u32w (by omega) (by omega)
  have la : ((dc A ++ [[v]]).length : Int) = ((dc A).length : Int) + 1 := by rw [List.length_append, List.length_singleton]; omega
  have yp : lbCs.ent.pre [cd (dc A ++ [[v]]), m, v + 1] := ⟨p1, p2, by show 0 <= v + 1; omega, by show v + 1 <= m + 1; omega, by show ((dc (cd (dc A ++ [[v]]))).length : Int) <= v + 1; rw [Ab, la]; omega⟩
  have ym : muCs [cd (dc A ++ [[v]]), m, v + 1] < muCs [A, m, v] := by show (m + 1 - (v + 1)).toNat < (m + 1 - v).toNat; omega
  have ih := hφ [cd (dc A ++ [[v]]), m, v + 1] ⟨rfl, hm, w0, trivial⟩ yp ym
  replace ih : dc (φ 0 [cd (dc A ++ [[v]]), m, v + 1]) = dc (cd (dc A ++ [[v]])) ++ numR (v + 1).toNat (m + 1).toNat := ih
  refine ⟨?_, ?_⟩ <;> simp (disch := omega) only [ewZ, reduceCtorEq, seval, hSS, c, w0]
  ·exact ⟨by omega, yp, ym⟩
  ·show dc (φ 0 _) = dc A ++ numR v.toNat (m + 1).toNat
   rw [ih, Ab, Qu (a := v.toNat) (by omega), show ((v.toNat : Nat) : Int) = v by omega, show v.toNat + 1 = (v + 1).toNat by omega, List.append_assoc]; rfl
 ·refine ⟨?_, ?_⟩ <;> simp (disch := omega) only [ewZ, reduceCtorEq, seval, hSS, c]
  ·show dc A = dc A ++ numR v.toNat (m + 1).toNat
   rw [Rh (by omega), List.append_nil]
theorem Qv {a n : Int} (h0 : 0 <= n) (h1 : n <= 32) (h : a % psz n = 0) (ha : 0 <= a /\ a <= 4294967295) : a + psz n <= 4294967296 := by
 obtain ⟨P, e1, e2, e3, e4⟩ := Fo h0 h1
 rw [e1] at h ⊢
 obtain ⟨A, rfl⟩ : ∃ A : Nat, a = (A : Int) := ⟨a.toNat, by omega⟩
 have hA : A % P = 0 := by have : ((A % P : Nat) : Int) = (A : Int) % (P : Int) := Int.natCast_emod ..; omega
 have hq : P * (A / P) = A := by have := Nat.div_add_mod A P; omega
 have hT : P * 2 ^ n.toNat = 4294967296 := by
  rw [e2, <- Nat.pow_add, show (32 - n).toNat + n.toNat = 32 by omega]
 have lt : A / P < 2 ^ n.toNat := (Nat.div_lt_iff_lt_mul (by omega)).2 (by rw [Nat.mul_comm, hT]; omega)
 have := Nat.mul_le_mul_left P lt
 rw [Nat.mul_succ, hq, hT] at this
 omega
theorem Fs {k : Nat} {D r : RL} {q : List Int} {m U W : Int} (h : spF k q = [[U, W - 1]]) (hd : D = q :: r) : brL m (D.flatMap (spF k)) = ([U] :: if W <= m then [[W]] else []) ++ brL m (r.flatMap (spF k)) := by
 rw [hd, List.flatMap_cons, h]
 unfold brL
 rw [List.flatMap_append, List.flatMap_cons, List.flatMap_nil, List.append_nil]
 congr 1
 show [U] :: (if W - 1 < m then [[W - 1 + 1]] else []) = _
 rw [Int.sub_add_cancel]
 by_cases c : W <= m
 ·rw [if_pos c, if_pos (by omega)]
 ·rw [if_neg c, if_neg (by omega)]
theorem okCb2 : IPz 44 pCb leCb2 KQ := by
 refine Ctx.OK.nil.loopK (c := cN) muCb true 11144 [] ⟨_, _, _, Tryd.func44, rfl, rfl⟩ ?_
 go_invoke
 refine enK rfl ?_
 intro φ l ρ L A m hm i hi hp hφ hSS _
 obtain ⟨p1, p2, p3, p4, p5⟩ := hp
 replace p1 : ruls (dc L) := p1
 replace p2 : m = lstF 2 := p2
 simp only [ewY, seval] at p3 p4 p5
 have hl := p1.1
 have wL : IntKind.i64.wrap ((dc L).length : Int) = ((dc L).length : Int) := i64w (by omega) (by omega)
 have mm := u32r hm
 have wm : IntKind.u64.wrap m = m := u64w (by omega) (by omega)
 by_cases c : i < ((dc L).length : Int)
 ·obtain ⟨r, er, hr, hmm, hdr⟩ := AK (ks := ruK) (c := L) (fun r h => (p1.2 r h).1) p3 c
  have hR := (p1.2 _ hmm).2
  obtain ⟨r0, g0, r1, g1, r2, g2, r3, g3, r4, g4, r5, g5, r6, g6, r7, g7, r8, g8, r9, g9, ra, ga, rb, gb, rc, gc, rfl⟩ := Bj hr
  simp only [AH] at g0 g1 g2 g3 g4 g5 g6 g7 g8 g9 ga gb
  have w0 : IntKind.i64.wrap (i + 1) = i + 1 := i64w (by omega) (by omega)
  obtain ⟨n0, n1, n2⟩ := hR.2.2.1.1
  replace n0 : 0 <= r5 := n0
  replace n1 : r5 <= 32 := n1
  replace n2 : r4 % psz r5 = 0 := n2
  have gl := u32r g4
  obtain ⟨P, e1, e2, e3, e4⟩ := Fo n0 n1
  have top : r4 + P <= 4294967296 := by
   have := Qv n0 n1 n2 gl
   omega
  have wl : IntKind.u64.wrap r4 = r4 := u64w (by omega) (by omega)
  have wh : IntKind.i64.wrap r5 = r5 := i64w (by omega) (by omega)
  have ws : IntKind.i64.wrap (32 - r5) = 32 - r5 := i64w (by omega) (by omega)
  have wp : IntKind.u64.wrap (1 * 2 ^ min (32 - r5).toNat IntKind.u64.bits) = P := by
   rw [show min (32 - r5).toNat IntKind.u64.bits = (32 - r5).toNat by show min (32 - r5).toNat 64 = _; omega, Int.one_mul]
   have : (2 : Int) ^ (32 - r5).toNat = (P : Int) := e1
   rw [this]; exact u64w (by omega) (by omega)
  have wa : IntKind.u64.wrap (r4 + P) = r4 + P := u64w (by omega) (by omega)
  have sp : spF 2 [r0, r1, r2, r3, r4, r5, r6, r7, r8, r9, ra, rb, rc] = [[r4, (r4 + P) - 1]] := by show [[r4, r4 + psz r5 - 1]] = _; rw [e1]
  obtain ⟨W, hW⟩ : ∃ W, r4 + (P : Int) = W := ⟨_, rfl⟩
  rw [hW] at sp top wa
  have wx : W <= m -> IntKind.u32.wrap W = W := fun h => u32w (by omega) (by omega)
  have st := Fs (m := m) sp hdr
  have nx : ∀ B : Int, dc B = dc A ++ ([r4] :: if W <= m then [[W]] else []) -> (JH.ent.pre [L, B, m, i + 1] /\ muCb [L, B, m, i + 1] < muCb [L, A, m, i]) /\ KQ [L, A, m, i] [φ 0 [L, B, m, i + 1]] := fun B hB => by
   have lb : (dc B).length <= (dc A).length + 2 := by rw [hB, List.length_append]; split <;> simp
   have yp : JH.ent.pre [L, B, m, i + 1] := ⟨p1, p2, by show 0 <= i + 1; omega, by show i + 1 <= ((dc L).length : Int); omega, by show ((dc B).length : Int) <= 1 + 2 * (i + 1); omega⟩
   have ym : muCb [L, B, m, i + 1] < muCb [L, A, m, i] := by show (((dc L).length : Int) - (i + 1)).toNat < (((dc L).length : Int) - i).toNat; omega
   refine ⟨⟨yp, ym⟩, ?_⟩
   have ih : dc (φ 0 [L, B, m, i + 1]) = dc B ++ brL (lstF 2) (((dc L).drop (i + 1).toNat).flatMap (spF 2)) := hφ [L, B, m, i + 1] ⟨rfl, rfl, hm, w0, trivial⟩ yp ym
   show dc (φ 0 [L, B, m, i + 1]) = dc A ++ brL (lstF 2) (((dc L).drop i.toNat).flatMap (spF 2))
   rw [ih, <- p2, st, hB, List.append_assoc]
  by_cases cw : W <= m
  ·have z := nx (cd (dc A ++ [[r4]] ++ [[W]])) (by rw [Ab, if_pos cw, List.append_assoc]; rfl)
   have l1 : ((dc A ++ [[r4]]).length : Int) <= 35184372088832 := by rw [List.length_append, List.length_singleton]; omega
   have l2 : ((dc A ++ [[r4]] ++ [[W]]).length : Int) <= 35184372088832 := by simp only [List.length_append, List.length_singleton]; omega
   refine ⟨?_, ?_⟩ <;> simp (disch := omega) only [ewZ, reduceCtorEq, seval, hSS, wL, c, er, g0, g1, g2, g3, g4, g5, g6, g7, g8, g9, ga, gb, gc, w0, wm, wl, wh, ws, wp, hW, wa, cw, wx cw]
   ·exact ⟨⟨p3, by omega, l1, l2⟩, z.1⟩
   ·exact z.2
  ·have z := nx (cd (dc A ++ [[r4]])) (by rw [Ab, if_neg cw])
   have l1 : ((dc A ++ [[r4]]).length : Int) <= 35184372088832 := by rw [List.length_append, List.length_singleton]; omega
   refine ⟨?_, ?_⟩ <;> simp (disch := omega) only [ewZ, reduceCtorEq, seval, hSS, wL, c, er, g0, g1, g2, g3, g4, g5, g6, g7, g8, g9, ga, gb, gc, w0, wm, wl, wh, ws, wp, hW, wa, cw]
   ·exact ⟨⟨p3, by omega, l1⟩, z.1⟩
   ·exact z.2
 ·refine ⟨?_, ?_⟩ <;> simp (disch := omega) only [ewZ, reduceCtorEq, seval, hSS, wL, c]
  ·show dc A = dc A ++ brL (lstF 2) (((dc L).drop i.toNat).flatMap (spF 2))
   rw [List.drop_eq_nil_of_le (by omega)]; show dc A = dc A ++ []; rw [List.append_nil]
theorem okCb3 : IPz 44 pCb leCb3 KR := by
 refine Ctx.OK.nil.loopK (c := cN) muCb true 12144 [] ⟨_, _, _, Tryd.func44, rfl, rfl⟩ ?_
 go_invoke
 refine enK rfl ?_
 intro φ l ρ L A m hm i hi hp hφ hSS _
 obtain ⟨p1, p2, p3, p4, p5⟩ := hp
 replace p1 : ruls (dc L) := p1
 replace p2 : m = lstF 3 := p2
 simp only [ewY, seval] at p3 p4 p5
 have hl := p1.1
 have wL : IntKind.i64.wrap ((dc L).length : Int) = ((dc L).length : Int) := i64w (by omega) (by omega)
 have mm := u32r hm
 have wm : IntKind.u64.wrap m = m := u64w (by omega) (by omega)
 by_cases c : i < ((dc L).length : Int)
 ·obtain ⟨r, er, hr, hmm, hdr⟩ := AK (ks := ruK) (c := L) (fun r h => (p1.2 r h).1) p3 c
  have hR := (p1.2 _ hmm).2
  obtain ⟨r0, g0, r1, g1, r2, g2, r3, g3, r4, g4, r5, g5, r6, g6, r7, g7, r8, g8, r9, g9, ra, ga, rb, gb, rc, gc, rfl⟩ := Bj hr
  simp only [AH] at g0 g1 g2 g3 g4 g5 g6 g7 g8 g9 ga gb
  have w0 : IntKind.i64.wrap (i + 1) = i + 1 := i64w (by omega) (by omega)
  obtain ⟨n0, n1, n2⟩ := hR.2.2.1.2
  replace n0 : 0 <= r7 := n0
  replace n1 : r7 <= 32 := n1
  replace n2 : r6 % psz r7 = 0 := n2
  have gl := u32r g6
  obtain ⟨P, e1, e2, e3, e4⟩ := Fo n0 n1
  have top : r6 + P <= 4294967296 := by
   have := Qv n0 n1 n2 gl
   omega
  have wl : IntKind.u64.wrap r6 = r6 := u64w (by omega) (by omega)
  have wh : IntKind.i64.wrap r7 = r7 := i64w (by omega) (by omega)
  have ws : IntKind.i64.wrap (32 - r7) = 32 - r7 := i64w (by omega) (by omega)
  have wp : IntKind.u64.wrap (1 * 2 ^ min (32 - r7).toNat IntKind.u64.bits) = P := by
   rw [show min (32 - r7).toNat IntKind.u64.bits = (32 - r7).toNat by show min (32 - r7).toNat 64 = _; omega, Int.one_mul]
   have : (2 : Int) ^ (32 - r7).toNat = (P : Int) := e1
   rw [this]; exact u64w (by omega) (by omega)
  have wa : IntKind.u64.wrap (r6 + P) = r6 + P := u64w (by omega) (by omega)
  have sp : spF 3 [r0, r1, r2, r3, r4, r5, r6, r7, r8, r9, ra, rb, rc] = [[r6, (r6 + P) - 1]] := by show [[r6, r6 + psz r7 - 1]] = _; rw [e1]
  obtain ⟨W, hW⟩ : ∃ W, r6 + (P : Int) = W := ⟨_, rfl⟩
  rw [hW] at sp top wa
  have wx : W <= m -> IntKind.u32.wrap W = W := fun h => u32w (by omega) (by omega)
  have st := Fs (m := m) sp hdr
  have nx : ∀ B : Int, dc B = dc A ++ ([r6] :: if W <= m then [[W]] else []) -> (JI.ent.pre [L, B, m, i + 1] /\ muCb [L, B, m, i + 1] < muCb [L, A, m, i]) /\ KR [L, A, m, i] [φ 0 [L, B, m, i + 1]] := fun B hB => by
   have lb : (dc B).length <= (dc A).length + 2 := by rw [hB, List.length_append]; split <;> simp
   have yp : JI.ent.pre [L, B, m, i + 1] := ⟨p1, p2, by show 0 <= i + 1; omega, by show i + 1 <= ((dc L).length : Int); omega, by show ((dc B).length : Int) <= 1 + 2 * (i + 1); omega⟩
   have ym : muCb [L, B, m, i + 1] < muCb [L, A, m, i] := by show (((dc L).length : Int) - (i + 1)).toNat < (((dc L).length : Int) - i).toNat; omega
   refine ⟨⟨yp, ym⟩, ?_⟩
   have ih : dc (φ 0 [L, B, m, i + 1]) = dc B ++ brL (lstF 3) (((dc L).drop (i + 1).toNat).flatMap (spF 3)) := hφ [L, B, m, i + 1] ⟨rfl, rfl, hm, w0, trivial⟩ yp ym
   show dc (φ 0 [L, B, m, i + 1]) = dc A ++ brL (lstF 3) (((dc L).drop i.toNat).flatMap (spF 3))
   rw [ih, <- p2, st, hB, List.append_assoc]
  by_cases cw : W <= m
  ·have z := nx (cd (dc A ++ [[r6]] ++ [[W]])) (by rw [Ab, if_pos cw, List.append_assoc]; rfl)
   have l1 : ((dc A ++ [[r6]]).length : Int) <= 35184372088832 := by rw [List.length_append, List.length_singleton]; omega
   have l2 : ((dc A ++ [[r6]] ++ [[W]]).length : Int) <= 35184372088832 := by simp only [List.length_append, List.length_singleton]; omega
   refine ⟨?_, ?_⟩ <;> simp (disch := omega) only [ewZ, reduceCtorEq, seval, hSS, wL, c, er, g0, g1, g2, g3, g4, g5, g6, g7, g8, g9, ga, gb, gc, w0, wm, wl, wh, ws, wp, hW, wa, cw, wx cw]
   ·exact ⟨⟨p3, by omega, l1, l2⟩, z.1⟩
   ·exact z.2
  ·have z := nx (cd (dc A ++ [[r6]])) (by rw [Ab, if_neg cw])
   have l1 : ((dc A ++ [[r6]]).length : Int) <= 35184372088832 := by rw [List.length_append, List.length_singleton]; omega
   refine ⟨?_, ?_⟩ <;> simp (disch := omega) only [ewZ, reduceCtorEq, seval, hSS, wL, c, er, g0, g1, g2, g3, g4, g5, g6, g7, g8, g9, ga, gb, gc, w0, wm, wl, wh, ws, wp, hW, wa, cw]
   ·exact ⟨⟨p3, by omega, l1⟩, z.1⟩
   ·exact z.2
 ·refine ⟨?_, ?_⟩ <;> simp (disch := omega) only [ewZ, reduceCtorEq, seval, hSS, wL, c]
  ·show dc A = dc A ++ brL (lstF 3) (((dc L).drop i.toNat).flatMap (spF 3))
   rw [List.drop_eq_nil_of_le (by omega)]; show dc A = dc A ++ []; rw [List.append_nil]
theorem okCb4 : IPz 44 pCb leCb4 KS := by
 refine Ctx.OK.nil.loopK (c := cN) muCb true 13144 [] ⟨_, _, _, Tryd.func44, rfl, rfl⟩ ?_
 go_invoke
 refine enK rfl ?_
 intro φ l ρ L A m hm i hi hp hφ hSS _
 obtain ⟨p1, p2, p3, p4, p5⟩ := hp
 replace p1 : ruls (dc L) := p1
 replace p2 : m = lstF 4 := p2
 simp only [ewY, seval] at p3 p4 p5
 have hl := p1.1
 have wL : IntKind.i64.wrap ((dc L).length : Int) = ((dc L).length : Int) := i64w (by omega) (by omega)
 have mm := u32r hm
 have wm : IntKind.u64.wrap m = m := u64w (by omega) (by omega)
 by_cases c : i < ((dc L).length : Int)
 ·obtain ⟨r, er, hr, hmm, hdr⟩ := AK (ks := ruK) (c := L) (fun r h => (p1.2 r h).1) p3 c
  have hR := (p1.2 _ hmm).2
  obtain ⟨r0, g0, r1, g1, r2, g2, r3, g3, r4, g4, r5, g5, r6, g6, r7, g7, r8, g8, r9, g9, ra, ga, rb, gb, rc, gc, rfl⟩ := Bj hr
  simp only [AH] at g0 g1 g2 g3 g4 g5 g6 g7 g8 g9 ga gb
  have w0 : IntKind.i64.wrap (i + 1) = i + 1 := i64w (by omega) (by omega)
  have gl := u16r g8
  have gh := u16r g9
  have wl : IntKind.u64.wrap r8 = r8 := u64w (by omega) (by omega)
  have wh : IntKind.u64.wrap r9 = r9 := u64w (by omega) (by omega)
  have wa : IntKind.u64.wrap (r9 + 1) = r9 + 1 := u64w (by omega) (by omega)
  have wq : IntKind.u32.wrap r8 = r8 := u32w (by omega) (by omega)
  have sp : spF 4 [r0, r1, r2, r3, r4, r5, r6, r7, r8, r9, ra, rb, rc] = [[r8, (r9 + 1) - 1]] := by show [[r8, r9]] = _; rw [Int.add_sub_cancel]
  obtain ⟨W, hW⟩ : ∃ W, r9 + 1 = W := ⟨_, rfl⟩
  rw [hW] at sp wa
  have wx : W <= m -> IntKind.u32.wrap W = W := fun h => u32w (by omega) (by omega)
  have st := Fs (m := m) sp hdr
  have nx : ∀ B : Int, dc B = dc A ++ ([r8] :: if W <= m then [[W]] else []) -> (JJ.ent.pre [L, B, m, i + 1] /\ muCb [L, B, m, i + 1] < muCb [L, A, m, i]) /\ KS [L, A, m, i] [φ 0 [L, B, m, i + 1]] := fun B hB => by
   have lb : (dc B).length <= (dc A).length + 2 := by rw [hB, List.length_append]; split <;> simp
   have yp : JJ.ent.pre [L, B, m, i + 1] := ⟨p1, p2, by show 0 <= i + 1; omega, by show i + 1 <= ((dc L).length : Int); omega, by show ((dc B).length : Int) <= 1 + 2 * (i + 1); omega⟩
   have ym : muCb [L, B, m, i + 1] < muCb [L, A, m, i] := by show (((dc L).length : Int) - (i + 1)).toNat < (((dc L).length : Int) - i).toNat; omega
   refine ⟨⟨yp, ym⟩, ?_⟩
   have ih : dc (φ 0 [L, B, m, i + 1]) = dc B ++ brL (lstF 4) (((dc L).drop (i + 1).toNat).flatMap (spF 4)) := hφ [L, B, m, i + 1] ⟨rfl, rfl, hm, w0, trivial⟩ yp ym
   show dc (φ 0 [L, B, m, i + 1]) = dc A ++ brL (lstF 4) (((dc L).drop i.toNat).flatMap (spF 4))
   rw [ih, <- p2, st, hB, List.append_assoc]
  by_cases cw : W <= m
  ·have z := nx (cd (dc A ++ [[r8]] ++ [[W]])) (by rw [Ab, if_pos cw, List.append_assoc]; rfl)
   have l1 : ((dc A ++ [[r8]]).length : Int) <= 35184372088832 := by rw [List.length_append, List.length_singleton]; omega
   have l2 : ((dc A ++ [[r8]] ++ [[W]]).length : Int) <= 35184372088832 := by simp only [List.length_append, List.length_singleton]; omega
   refine ⟨?_, ?_⟩ <;> simp (disch := omega) only [ewZ, reduceCtorEq, seval, hSS, wL, c, er, g0, g1, g2, g3, g4, g5, g6, g7, g8, g9, ga, gb, gc, w0, wm, wl, wh, hW, wa, wq, cw, wx cw]
   ·exact ⟨⟨p3, l1, l2⟩, z.1⟩
   ·exact z.2
  ·have z := nx (cd (dc A ++ [[r8]])) (by rw [Ab, if_neg cw])
   have l1 : ((dc A ++ [[r8]]).length : Int) <= 35184372088832 := by rw [List.length_append, List.length_singleton]; omega
   refine ⟨?_, ?_⟩ <;> simp (disch := omega) only [ewZ, reduceCtorEq, seval, hSS, wL, c, er, g0, g1, g2, g3, g4, g5, g6, g7, g8, g9, ga, gb, gc, w0, wm, wl, wh, hW, wa, wq, cw]
   ·exact ⟨⟨p3, l1⟩, z.1⟩
   ·exact z.2
 ·refine ⟨?_, ?_⟩ <;> simp (disch := omega) only [ewZ, reduceCtorEq, seval, hSS, wL, c]
  ·show dc A = dc A ++ brL (lstF 4) (((dc L).drop i.toNat).flatMap (spF 4))
   rw [List.drop_eq_nil_of_le (by omega)]; show dc A = dc A ++ []; rw [List.append_nil]
theorem okCb5 : IPz 44 pCb leCb5 KT := by
 refine Ctx.OK.nil.loopK (c := cN) muCb true 14144 [] ⟨_, _, _, Tryd.func44, rfl, rfl⟩ ?_
 go_invoke
 refine enK rfl ?_
 intro φ l ρ L A m hm i hi hp hφ hSS _
 obtain ⟨p1, p2, p3, p4, p5⟩ := hp
 replace p1 : ruls (dc L) := p1
 replace p2 : m = lstF 5 := p2
 simp only [ewY, seval] at p3 p4 p5
 have hl := p1.1
 have wL : IntKind.i64.wrap ((dc L).length : Int) = ((dc L).length : Int) := i64w (by omega) (by omega)
 have mm := u32r hm
 have wm : IntKind.u64.wrap m = m := u64w (by omega) (by omega)
 by_cases c : i < ((dc L).length : Int)
 ·obtain ⟨r, er, hr, hmm, hdr⟩ := AK (ks := ruK) (c := L) (fun r h => (p1.2 r h).1) p3 c
  have hR := (p1.2 _ hmm).2
  obtain ⟨r0, g0, r1, g1, r2, g2, r3, g3, r4, g4, r5, g5, r6, g6, r7, g7, r8, g8, r9, g9, ra, ga, rb, gb, rc, gc, rfl⟩ := Bj hr
  simp only [AH] at g0 g1 g2 g3 g4 g5 g6 g7 g8 g9 ga gb
  have w0 : IntKind.i64.wrap (i + 1) = i + 1 := i64w (by omega) (by omega)
  have gl := u16r ga
  have gh := u16r gb
  have wl : IntKind.u64.wrap ra = ra := u64w (by omega) (by omega)
  have wh : IntKind.u64.wrap rb = rb := u64w (by omega) (by omega)
  have wa : IntKind.u64.wrap (rb + 1) = rb + 1 := u64w (by omega) (by omega)
  have wq : IntKind.u32.wrap ra = ra := u32w (by omega) (by omega)
  have sp : spF 5 [r0, r1, r2, r3, r4, r5, r6, r7, r8, r9, ra, rb, rc] = [[ra, (rb + 1) - 1]] := by show [[ra, rb]] = _; rw [Int.add_sub_cancel]
  obtain ⟨W, hW⟩ : ∃ W, rb + 1 = W := ⟨_, rfl⟩
  rw [hW] at sp wa
  have wx : W <= m -> IntKind.u32.wrap W = W := fun h => u32w (by omega) (by omega)
  have st := Fs (m := m) sp hdr
  have nx : ∀ B : Int, dc B = dc A ++ ([ra] :: if W <= m then [[W]] else []) -> (JK.ent.pre [L, B, m, i + 1] /\ muCb [L, B, m, i + 1] < muCb [L, A, m, i]) /\ KT [L, A, m, i] [φ 0 [L, B, m, i + 1]] := fun B hB => by
   have lb : (dc B).length <= (dc A).length + 2 := by rw [hB, List.length_append]; split <;> simp
   have yp : JK.ent.pre [L, B, m, i + 1] := ⟨p1, p2, by show 0 <= i + 1; omega, by show i + 1 <= ((dc L).length : Int); omega, by show ((dc B).length : Int) <= 1 + 2 * (i + 1); omega⟩
   have ym : muCb [L, B, m, i + 1] < muCb [L, A, m, i] := by show (((dc L).length : Int) - (i + 1)).toNat < (((dc L).length : Int) - i).toNat; omega
   refine ⟨⟨yp, ym⟩, ?_⟩
   have ih : dc (φ 0 [L, B, m, i + 1]) = dc B ++ brL (lstF 5) (((dc L).drop (i + 1).toNat).flatMap (spF 5)) := hφ [L, B, m, i + 1] ⟨rfl, rfl, hm, w0, trivial⟩ yp ym
   show dc (φ 0 [L, B, m, i + 1]) = dc A ++ brL (lstF 5) (((dc L).drop i.toNat).flatMap (spF 5))
   rw [ih, <- p2, st, hB, List.append_assoc]
  by_cases cw : W <= m
  ·have z := nx (cd (dc A ++ [[ra]] ++ [[W]])) (by rw [Ab, if_pos cw, List.append_assoc]; rfl)
   have l1 : ((dc A ++ [[ra]]).length : Int) <= 35184372088832 := by rw [List.length_append, List.length_singleton]; omega
   have l2 : ((dc A ++ [[ra]] ++ [[W]]).length : Int) <= 35184372088832 := by simp only [List.length_append, List.length_singleton]; omega
   refine ⟨?_, ?_⟩ <;> simp (disch := omega) only [ewZ, reduceCtorEq, seval, hSS, wL, c, er, g0, g1, g2, g3, g4, g5, g6, g7, g8, g9, ga, gb, gc, w0, wm, wl, wh, hW, wa, wq, cw, wx cw]
   ·exact ⟨⟨p3, l1, l2⟩, z.1⟩
   ·exact z.2
  ·have z := nx (cd (dc A ++ [[ra]])) (by rw [Ab, if_neg cw])
   have l1 : ((dc A ++ [[ra]]).length : Int) <= 35184372088832 := by rw [List.length_append, List.length_singleton]; omega
   refine ⟨?_, ?_⟩ <;> simp (disch := omega) only [ewZ, reduceCtorEq, seval, hSS, wL, c, er, g0, g1, g2, g3, g4, g5, g6, g7, g8, g9, ga, gb, gc, w0, wm, wl, wh, hW, wa, wq, cw]
   ·exact ⟨⟨p3, l1⟩, z.1⟩
   ·exact z.2
 ·refine ⟨?_, ?_⟩ <;> simp (disch := omega) only [ewZ, reduceCtorEq, seval, hSS, wL, c]
  ·show dc A = dc A ++ brL (lstF 5) (((dc L).drop i.toNat).flatMap (spF 5))
   rw [List.drop_eq_nil_of_le (by omega)]; show dc A = dc A ++ []; rw [List.append_nil]
theorem TR : c440.OK Tryd.prog G0 := ⟨rfl, mF trivial, mF ⟨okCs.1, trivial⟩⟩
theorem ok440 : EPz e440 Qn := by
 refine TR.nm.entryK true [(100009044, leCs.nm.ent)] ?_
 go_invoke
 refine enK rfl ?_
 intro l ρ L hp v1 hSS hd1
 simp (disch := omega) only [and_true, Ent.nm_fn, hSS, ewZ, reduceCtorEq, seval] at hd1
 have y : leCs.ent.pre [cd [], 1, 0] := ⟨by show (0 : Int) <= 1; decide, by show (1 : Int) <= 63; decide, Int.le_refl _, by show (0 : Int) <= 1 + 1; decide, by show ((dc (cd [])).length : Int) <= 0; rw [Ab]; exact Int.le_refl _⟩
 have z := (PostOK.usf (vs := [v1]) okCs.2 ⟨hd1, trivial⟩) ⟨rfl, rfl, rfl, trivial⟩ y
 replace z : dc v1 = dc (cd []) ++ numR 0 ((1 : Int) + 1).toNat := z
 rw [Ab, List.nil_append] at z
 refine ⟨?_, ?_⟩ <;> simp (disch := omega) only [ewZ, reduceCtorEq, seval, hSS]
 ·exact y
 ·show dc v1 = candF 0 (dc L)
  rw [z]; unfold candF; rw [if_pos (by decide)]; rfl
theorem TS : c441.OK Tryd.prog G0 := ⟨rfl, mF trivial, mF ⟨okCs.1, trivial⟩⟩
theorem ok441 : EPz e441 Qo := by
 refine TS.nm.entryK true [(100009044, leCs.nm.ent)] ?_
 go_invoke
 refine enK rfl ?_
 intro l ρ L hp v1 hSS hd1
 simp (disch := omega) only [and_true, Ent.nm_fn, hSS, ewZ, reduceCtorEq, seval] at hd1
 have y : leCs.ent.pre [cd [], 2, 0] := ⟨by show (0 : Int) <= 2; decide, by show (2 : Int) <= 63; decide, Int.le_refl _, by show (0 : Int) <= 2 + 1; decide, by show ((dc (cd [])).length : Int) <= 0; rw [Ab]; exact Int.le_refl _⟩
 have z := (PostOK.usf (vs := [v1]) okCs.2 ⟨hd1, trivial⟩) ⟨rfl, rfl, rfl, trivial⟩ y
 replace z : dc v1 = dc (cd []) ++ numR 0 ((2 : Int) + 1).toNat := z
 rw [Ab, List.nil_append] at z
 refine ⟨?_, ?_⟩ <;> simp (disch := omega) only [ewZ, reduceCtorEq, seval, hSS]
 ·exact y
 ·show dc v1 = candF 1 (dc L)
  rw [z]; unfold candF; rw [if_pos (by decide)]; rfl
theorem TT : c442.OK Tryd.prog G0 := ⟨rfl, mF trivial, mF ⟨okCb2.1, trivial⟩⟩
theorem ok442 : EPz e442 Qp := by
 refine TT.nm.entryK true [(100011144, leCb2.nm.ent)] ?_
 go_invoke
 refine enK rfl ?_
 intro l ρ L hp v1 hSS hd1
 simp (disch := omega) only [and_true, Ent.nm_fn, hSS, ewZ, reduceCtorEq, seval] at hd1
 replace hp : ruls (dc L) := hp
 have y : leCb2.ent.pre [L, cd [[0]], 4294967295, 0] := ⟨hp, rfl, Int.le_refl _, Int.natCast_nonneg _, by show ((dc (cd [[0]])).length : Int) <= 1 + 2 * 0; rw [Ab]; decide⟩
 have z := (PostOK.usf (vs := [v1]) okCb2.2 ⟨hd1, trivial⟩) ⟨rfl, rfl, rfl, rfl, trivial⟩ y
 replace z : dc v1 = dc (cd [[0]]) ++ brL (lstF 2) ((dc L).flatMap (spF 2)) := z
 rw [Ab] at z
 refine ⟨?_, ?_⟩ <;> simp (disch := omega) only [ewZ, reduceCtorEq, seval, hSS]
 ·exact ⟨by decide, y⟩
 ·show dc v1 = candF 2 (dc L)
  rw [z]; unfold candF; rw [if_neg (by decide)]; rfl
theorem TU : c443.OK Tryd.prog G0 := ⟨rfl, mF trivial, mF ⟨okCb3.1, trivial⟩⟩
theorem ok443 : EPz e443 Qq := by
 refine TU.nm.entryK true [(100012144, leCb3.nm.ent)] ?_
 go_invoke
 refine enK rfl ?_
 intro l ρ L hp v1 hSS hd1
 simp (disch := omega) only [and_true, Ent.nm_fn, hSS, ewZ, reduceCtorEq, seval] at hd1
 replace hp : ruls (dc L) := hp
 have y : leCb3.ent.pre [L, cd [[0]], 4294967295, 0] := ⟨hp, rfl, Int.le_refl _, Int.natCast_nonneg _, by show ((dc (cd [[0]])).length : Int) <= 1 + 2 * 0; rw [Ab]; decide⟩
 have z := (PostOK.usf (vs := [v1]) okCb3.2 ⟨hd1, trivial⟩) ⟨rfl, rfl, rfl, rfl, trivial⟩ y
 replace z : dc v1 = dc (cd [[0]]) ++ brL (lstF 3) ((dc L).flatMap (spF 3)) := z
 rw [Ab] at z
 refine ⟨?_, ?_⟩ <;> simp (disch := omega) only [ewZ, reduceCtorEq, seval, hSS]
 ·exact ⟨by decide, y⟩
 ·show dc v1 = candF 3 (dc L)
  rw [z]; unfold candF; rw [if_neg (by decide)]; rfl
theorem TV : c444.OK Tryd.prog G0 := ⟨rfl, mF trivial, mF ⟨okCb4.1, trivial⟩⟩
theorem ok444 : EPz e444 Qr := by
 refine TV.nm.entryK true [(100013144, leCb4.nm.ent)] ?_
 go_invoke
 refine enK rfl ?_
 intro l ρ L hp v1 hSS hd1
 simp (disch := omega) only [and_true, Ent.nm_fn, hSS, ewZ, reduceCtorEq, seval] at hd1
 replace hp : ruls (dc L) := hp
 have y : leCb4.ent.pre [L, cd [[0]], 65535, 0] := ⟨hp, rfl, Int.le_refl _, Int.natCast_nonneg _, by show ((dc (cd [[0]])).length : Int) <= 1 + 2 * 0; rw [Ab]; decide⟩
 have z := (PostOK.usf (vs := [v1]) okCb4.2 ⟨hd1, trivial⟩) ⟨rfl, rfl, rfl, rfl, trivial⟩ y
 replace z : dc v1 = dc (cd [[0]]) ++ brL (lstF 4) ((dc L).flatMap (spF 4)) := z
 rw [Ab] at z
 refine ⟨?_, ?_⟩ <;> simp (disch := omega) only [ewZ, reduceCtorEq, seval, hSS]
 ·exact ⟨by decide, y⟩
 ·show dc v1 = candF 4 (dc L)
  rw [z]; unfold candF; rw [if_neg (by decide)]; rfl
theorem TW : c445.OK Tryd.prog G0 := ⟨rfl, mF trivial, mF ⟨okCb5.1, trivial⟩⟩
theorem ok445 : EPz e445 Qs := by
 refine TW.nm.entryK true [(100014144, leCb5.nm.ent)] ?_
 go_invoke
 refine enK rfl ?_
 intro l ρ L hp v1 hSS hd1
 simp (disch := omega) only [and_true, Ent.nm_fn, hSS, ewZ, reduceCtorEq, seval] at hd1
 replace hp : ruls (dc L) := hp
 have y : leCb5.ent.pre [L, cd [[0]], 65535, 0] := ⟨hp, rfl, Int.le_refl _, Int.natCast_nonneg _, by show ((dc (cd [[0]])).length : Int) <= 1 + 2 * 0; rw [Ab]; decide⟩
 have z := (PostOK.usf (vs := [v1]) okCb5.2 ⟨hd1, trivial⟩) ⟨rfl, rfl, rfl, rfl, trivial⟩ y
 replace z : dc v1 = dc (cd [[0]]) ++ brL (lstF 5) ((dc L).flatMap (spF 5)) := z
 rw [Ab] at z
 refine ⟨?_, ?_⟩ <;> simp (disch := omega) only [ewZ, reduceCtorEq, seval, hSS]
 ·exact ⟨by decide, y⟩
 ·show dc v1 = candF 5 (dc L)
  rw [z]; unfold candF; rw [if_neg (by decide)]; rfl
theorem TX : c446.OK Tryd.prog G0 := ⟨rfl, mF trivial, mF ⟨okCs.1, trivial⟩⟩
theorem ok446 : EPz e446 Qt := by
 refine TX.nm.entryK true [(100009044, leCs.nm.ent)] ?_
 go_invoke
 refine enK rfl ?_
 intro l ρ L hp v1 hSS hd1
 simp (disch := omega) only [and_true, Ent.nm_fn, hSS, ewZ, reduceCtorEq, seval] at hd1
 have y : leCs.ent.pre [cd [], 63, 0] := ⟨by show (0 : Int) <= 63; decide, by show (63 : Int) <= 63; decide, Int.le_refl _, by show (0 : Int) <= 63 + 1; decide, by show ((dc (cd [])).length : Int) <= 0; rw [Ab]; exact Int.le_refl _⟩
 have z := (PostOK.usf (vs := [v1]) okCs.2 ⟨hd1, trivial⟩) ⟨rfl, rfl, rfl, trivial⟩ y
 replace z : dc v1 = dc (cd []) ++ numR 0 ((63 : Int) + 1).toNat := z
 rw [Ab, List.nil_append] at z
 refine ⟨?_, ?_⟩ <;> simp (disch := omega) only [ewZ, reduceCtorEq, seval, hSS]
 ·exact y
 ·show dc v1 = candF 6 (dc L)
  rw [z]; unfold candF; rw [if_pos (by decide)]; rfl
theorem okSr : IPz 27 pSr leSr T2s := by
 refine Ctx.OK.nil.loopK (c := cN) muSi true 9027 [] ⟨_, _, _, Tryd.func27, rfl, rfl⟩ ?_
 go_invoke
 refine enK rfl ?_
 intro φ l ρ A B i hi hp hφ hSS _
 obtain ⟨p1, p2, p3, p4, p5⟩ := hp
 replace p1 : dc A = dc B := p1
 replace p2 : rowsOK ruK (dc A) := p2
 simp only [ewY, seval] at p3 p4 p5
 refine ⟨?_, trivial⟩
 have wA : IntKind.i64.wrap ((dc A).length : Int) = ((dc A).length : Int) := i64w (by omega) (by omega)
 by_cases c : i < ((dc A).length : Int)
 ·obtain ⟨r, er, hr, hm, hdr⟩ := AK p2 p4 c
  obtain ⟨r0, g0, r1, g1, r2, g2, r3, g3, r4, g4, r5, g5, r6, g6, r7, g7, r8, g8, r9, g9, ra, ga, rb, gb, rc, gc, rfl⟩ := Bj hr
  simp only [AH] at g0 g1 g2 g3 g4 g5 g6 g7 g8 g9 ga gb
  have w0 : IntKind.i64.wrap (i + 1) = i + 1 := i64w (by omega) (by omega)
  have yp : lbSr.ent.pre [A, B, i + 1] := ⟨p1, p2, p3, by show 0 <= i + 1; omega, by show i + 1 <= ((dc A).length : Int); omega⟩
  have ym : muSi [A, B, i + 1] < muSi [A, B, i] := by show (((dc A).length : Int) - (i + 1)).toNat < (((dc A).length : Int) - i).toNat; omega
  simp (disch := omega) only [ewZ, reduceCtorEq, seval, hSS, c, <- p1, wA, er, g0, g1, g2, g3, g4, g5, g6, g7, g8, g9, ga, gb, gc, w0]
  exact ⟨by omega, yp, ym⟩
 ·simp (disch := omega) only [ewZ, reduceCtorEq, seval, hSS, c, wA]
theorem c27ok : c27.OK Tryd.prog G0 := ⟨rfl, mF trivial, mF ⟨okSr.1, trivial⟩⟩
theorem ok27 : EPz e27 T2s := by
 refine c27ok.entryK true [(9027, leSr.ent)] ?_
 go_invoke
 refine enK rfl ?_
 intro l ρ A B hp hSS _
 obtain ⟨p1, p2, p3⟩ := hp
 replace p1 : dc A = dc B := p1
 replace p3 : ((dc A).length : Int) <= 1000000 := p3
 have y : leSr.ent.pre [A, B, 0] := ⟨p1, p2, p3, Int.le_refl _, Int.natCast_nonneg _⟩
 refine ⟨?_, trivial⟩
 simp (disch := omega) only [ewZ, reduceCtorEq, seval, hSS, <- p1]
 exact y
end
end Go.Proofs.YtgpflpbldeflhaaDoor.Ew.Sr
