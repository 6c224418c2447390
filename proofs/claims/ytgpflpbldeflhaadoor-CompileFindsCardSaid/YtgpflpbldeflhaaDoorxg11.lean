/- Texts that the claim needs, set narrow. -/
import Derived.Test.YtgpflpbldeflhaaDoorxg10
import Derived.LaidByTextLater
import Derived.LaidSub
import Derived.LaidOnce
import GoSem.ClaimSeven
set_option linter.unusedVariables false
set_option linter.unusedSimpArgs false
set_option maxHeartbeats 8000000
namespace Go.Proofs.YtgpflpbldeflhaaDoor.Ew.Sr
open Go Go.RowKit
noncomputable section
def pAb : List Bool := [true,true,true,true,false,true,false]
def pAd : List Bool := pAb ++ [false,true,false,false,true,false,true,false,false,true,false,false,true,true,true,false]
def holB (C : RL) (v : Int) (j : Nat) : Bool := decide ((C.getD j []).getD 0 0 <= v) && (decide (j + 1 = C.length) || decide (v < (C.getD (j + 1) []).getD 0 0))
def claB (C : RL) (v : Int) (k i : Nat) : Bool := ((List.range C.length).drop i).all fun j => !holB C v j || bitS ((C.getD j []).drop 1) k
def preAd (xs : List Int) : Prop := rowsOK clK (dc (env xs 3)) /\ ((dc (env xs 3)).length : Int) <= 1000000 /\ (0 <= env xs 0 /\ env xs 0 < 256) /\ 0 <= env xs 4 /\ env xs 4 <= ((dc (env xs 3)).length : Int)
def Qp (xs ys : List Int) : Prop := env ys 0 = b2i (i2b (env xs 1) && claB (dc (env xs 3)) (env xs 2) (env xs 0).toNat (env xs 4).toNat)
def muAd (xs : List Int) : Nat := (((dc (env xs 3)).length : Int) - env xs 4).toNat
def lbAd : LEnt := ⟨⟨9314, 999999, [i64, .sc .b, u32, lrc, i64], [], [0], .tup [.sc .b], z0, preAd⟩, [11, 12, 14, 16, 17], [12], [17] ++ (List.range 46).map (· + 50), [.ex 4], 102, []⟩
def leAd : LEnt := lbAd.fw (fnM Tryd.prog G0 14 pAd lbAd Qp)
def cAb : Ctx := ⟨[], [(14, pAd, leAd)]⟩
def bxF : Sh := .obj 31 (facK.map .sc)
def okT (xs : List Int) : Prop := ∀ k : Nat, k < 7 -> rowsOK clK (dc (env xs (k + 1))) /\ ((dc (env xs (k + 1))).length : Int) <= 1000000
def claA (T : List RL) (s : Int) (f : List Int) (i : Nat) : Bool := (List.range 7).all fun k => claB (T.getD k []) (valF k s f) i 0
def preAb (xs : List Int) : Prop := pktP (env xs 0) ((xs.drop 9).take 19) /\ okT ((xs.drop 1).take 8) /\ env xs 1 <= 256 /\ 0 <= env xs 29 /\ env xs 29 <= env xs 1 /\ ((dc (env xs 28)).length : Int) <= env xs 29
def Qq (xs ys : List Int) : Prop := dc (env ys 0) = dc (env xs 28) ++ Au (((List.range (env xs 1).toNat).drop (env xs 29).toNat).filter (claA (tabs ((xs.drop 1).take 8)) (env xs 0) ((xs.drop 9).take 19)))
def muAb (xs : List Int) : Nat := (env xs 1 - env xs 29).toNat
def lbAb : LEnt := ⟨⟨9114, 999999, [u8, rtbx, bxF, lnt, i64], [], List.range 9, .tup [lnt], z0, preAb⟩, [1, 3, 5, 10, 11], [10], (List.range 7).map (· + 11) ++ (List.range 72).map (· + 29), [.ex 0], 102, []⟩
def leAb : LEnt := lbAb.fw (fnM Tryd.prog G0 14 pAb lbAb Qq)
def c14 : Ctx := ⟨[e17], [(14, pAb, leAb)]⟩
def pre14 (xs : List Int) : Prop := okT (xs.take 8)
def Ln (xs ys : List Int) : Prop := (¬ tabR (xs.take 8) /\ dc (env ys 0) = [] /\ env ys 1 = 280) \/ (tabR (xs.take 8) /\ ¬ pktP (env xs 8) (xs.drop 9) /\ dc (env ys 0) = [] /\ env ys 1 = 261) \/
 (tabR (xs.take 8) /\ pktP (env xs 8) (xs.drop 9) /\ dc (env ys 0) = Au (allF (env xs 0).toNat (tabs (xs.take 8)) (env xs 8) (xs.drop 9)) /\ env ys 1 = 0)
def b14 : Ent := ⟨14, 14, [rtab, u8, fa], [], [0, 1, 2, 3, 4, 5, 6], .tup [lnt, i64], z0, pre14⟩
def e14 : Ent := b14.fw (fnG Tryd.prog G0 b14 Ln)
theorem Qr {C : RL} {v : Int} {k i : Nat} (h : i < C.length) : claB C v k i = ((!holB C v i || bitS ((C.getD i []).drop 1) k) && claB C v k (i + 1)) := by
 unfold claB
 rw [List.drop_eq_getElem_cons (by rw [List.length_range]; exact h), List.getElem_range]; rfl
theorem QU {C : RL} {v : Int} {k i : Nat} (h : C.length <= i) : claB C v k i = true := by
 unfold claB; rw [List.drop_eq_nil_of_le (by rw [List.length_range]; exact h)]; rfl
theorem Lo {m : Int} {B : List Int} {R : RL} (h : fldR m B R) : ∀ i j, i < j -> j < R.length -> (R.getD i []).getD 0 0 < (R.getD j []).getD 0 0
 | i, 0, h1, _ => absurd h1 (Nat.not_lt_zero _)
 | i, j + 1, h1, h2 => by
   have a := ((h.2.2.2 (j + 1) h2).1 (Nat.succ_pos _)).1
   rw [Nat.add_sub_cancel] at a
   by_cases e : i = j
   ·rw [e]; exact a
   ·exact Int.lt_trans (Lo h i j (by omega) (by omega)) a
theorem QV {m : Int} {B : List Int} {R : RL} (h : fldR m B R) {v : Int} (hv : 0 <= v) (k : Nat) : claB R v k 0 = bitS (selR R v) k := by
 have key : ∀ n, n <= R.length -> (∃ p, p + 1 < n /\ (R.getD p []).getD 0 0 <= v /\ v < (R.getD (p + 1) []).getD 0 0) \/ ∀ i, i < n -> (R.getD i []).getD 0 0 <= v := by
  intro n
  induction n with
  | zero => exact fun _ => Or.inr fun i hi => absurd hi (Nat.not_lt_zero _)
  | succ n ih =>
    intro hn
    rcases ih (by omega) with ⟨p, h1, h2⟩ | h1
    ·exact Or.inl ⟨p, by omega, h2⟩
    ·by_cases c : (R.getD n []).getD 0 0 <= v
     ·refine Or.inr fun i hi => ?_
      by_cases e : i = n
      ·rw [e]; exact c
      ·exact h1 i (by omega)
     ·cases n with
      | zero => exact absurd (by rw [h.2.1]; exact hv) c
      | succ n => exact Or.inl ⟨n, by omega, h1 n (by omega), by omega⟩
 obtain ⟨p, hp, h1, h2⟩ : ∃ p, p < R.length /\ (R.getD p []).getD 0 0 <= v /\ (p + 1 = R.length \/ v < (R.getD (p + 1) []).getD 0 0) := by
  rcases key R.length (Nat.le_refl _) with ⟨p, h1, h2, h3⟩ | h1
  ·exact ⟨p, by omega, h2, Or.inr h3⟩
  ·have := h.1
   exact ⟨R.length - 1, by omega, h1 _ (by omega), Or.inl (by omega)⟩
 have mono := Lo h
 have up : ∀ j, p < j -> j < R.length -> v < (R.getD j []).getD 0 0 := fun j hj hl => by
  rcases h2 with h2 | h2
  ·omega
  ·by_cases e : j = p + 1
   ·rw [e]; exact h2
   ·exact Int.lt_trans h2 (mono (p + 1) j (by omega) hl)
 have lo : ∀ j, j <= p -> (R.getD j []).getD 0 0 <= v := fun j hj => by
  by_cases e : j = p
  ·rw [e]; exact h1
  ·exact Int.le_trans (Int.le_of_lt (mono j p (by omega) hp)) h1
 have sel := (cutP.sel (v := v) (n := (p : Int) + 1) ⟨by omega, by omega, fun i hi => lo i (by omega), fun i hi hl => up i (by omega) hl⟩ h hv).2
 rw [show ((p : Int) + 1 - 1).toNat = p by omega] at sel
 rw [sel, Bool.eq_iff_iff]
 unfold claB
 rw [List.drop_zero, List.all_eq_true]
 constructor
 ·intro g
  have g := g p (List.mem_range.2 hp)
  have e : holB R v p = true := by
   unfold holB
   rw [decide_eq_true h1, Bool.true_and]
   rcases h2 with h2 | h2
   ·rw [decide_eq_true h2]; rfl
   ·rw [decide_eq_true h2, Bool.or_true]
  rw [e] at g
  exact g
 ·intro g j hj
  have hj := List.mem_range.1 hj
  by_cases e : j = p
  ·rw [e, g, Bool.or_true]
  ·have : holB R v j = false := by
    unfold holB
    by_cases c : j < p
    ·have a := lo (j + 1) (by omega)
     rw [decide_eq_false (show ¬ (j + 1 = R.length) by omega), decide_eq_false (show ¬ v < (R.getD (j + 1) []).getD 0 0 by omega), Bool.or_false, Bool.and_false]
    ·have a := up j (by omega) hj
     rw [decide_eq_false (show ¬ (R.getD j []).getD 0 0 <= v by omega), Bool.false_and]
   rw [this]; rfl
theorem bn (b : Bool) : K.b.norm (b2i b) = b2i b := by cases b <;> rfl
theorem nb {o : Int} (h : K.b.norm o = o) : o = b2i (i2b o) := by
 have : o = 0 \/ o = 1 := by
  by_cases c : o = 0
  ·exact Or.inl c
  ·have h : (if o = 0 then (0 : Int) else 1) = o := h
   rw [if_neg c] at h; exact Or.inr h.symm
 rcases this with rfl | rfl <;> rfl
theorem okAd : Ae Tryd.prog G0 14 pAd leAd /\ PostOK leAd.ent Qp := by
 refine Ctx.OK.nil.loopJ (c := cN) mixed muAd true ⟨_, _, _, Tryd.func14, rfl, rfl⟩ 9314 rfl rfl ?_
 go_invoke
 refine ⟨_, _, _, _, rfl, by kernel_rfl, ?_⟩
 intro k hk o ho v hv C i hi hp φ hφ l hS hF ρ hρe hd
 simp only [eqL, Nat.reduceAdd] at hρe
 have hSS := Jj (Jj hS (Jj hρe hk)) (Jj ho (Jj hv hi))
 obtain ⟨p1, p2, p3, p4, p5⟩ := hp
 replace p1 : rowsOK clK (dc C) := p1
 simp only [ewY, seval] at p2 p3 p4 p5
 have wC : IntKind.i64.wrap ((dc C).length : Int) = ((dc C).length : Int) := i64w (by omega) (by omega)
 by_cases c : i < ((dc C).length : Int)
 ·obtain ⟨f0, f1, f2, f3, f4, ef, hf0, hs⟩ := A9 p1 (show i.toNat < (dc C).length by omega)
  have zx := Qj p3.1 p3.2
  have zb := MB hs p3.1 p3.2
  have w0 : IntKind.i64.wrap (i + 1) = i + 1 := i64w (by omega) (by omega)
  have cs := Qr (v := v) (k := k.toNat) (show i.toNat < (dc C).length by omega)
  rw [ef, show i.toNat + 1 = (i + 1).toNat by omega] at cs
  have yp : ∀ o, lbAd.ent.pre [k, o, v, C, i + 1] := fun o => ⟨p1, p2, p3, by show 0 <= i + 1; omega, by show i + 1 <= ((dc C).length : Int); omega⟩
  have ym : ∀ o', muAd [k, o', v, C, i + 1] < muAd [k, o, v, C, i] := fun o' => by show (((dc C).length : Int) - (i + 1)).toNat < (((dc C).length : Int) - i).toNat; omega
  have ih := fun o' (ho : K.b.norm o' = o') => hφ [k, o', v, C, i + 1] ⟨hk, ho, hv, rfl, w0, trivial⟩ (yp o') (ym o')
  by_cases c1 : i + 1 = ((dc C).length : Int)
  ·by_cases c2 : f0 <= v
   ·refine ⟨?_, ?_⟩ <;> simp (disch := omega) only [ewZ, reduceCtorEq, seval, hSS, wC, c, ef, hf0, w0, zb, GR, c1, c2]
    ·have a := yp (b2i (i2b o && bitS [f1, f2, f3, f4] k.toNat))
     have b := ym (b2i (i2b o && bitS [f1, f2, f3, f4] k.toNat))
     rw [c1] at a b
     exact ⟨⟨p4, fun _ => ⟨by omega, zx.1, zx.2.1⟩, fun _ => zx.2.2⟩, a, b⟩
    ·have z := ih (b2i (i2b o && bitS [f1, f2, f3, f4] k.toNat)) (bn _)
     rw [c1] at z
     replace z : K.b.norm (φ 0 [k, b2i (i2b o && bitS [f1, f2, f3, f4] k.toNat), v, C, ((dc C).length : Int)]) = b2i (i2b (b2i (i2b o && bitS [f1, f2, f3, f4] k.toNat)) && claB (dc C) v k.toNat ((dc C).length : Int).toNat) := z
     have hol : holB (dc C) v i.toNat = true := by
      unfold holB
      rw [ef, decide_eq_true (show [f0, f1, f2, f3, f4].getD 0 0 <= v from c2), decide_eq_true (show i.toNat + 1 = (dc C).length by omega)]; rfl
     show K.b.norm _ = b2i (i2b o && claB (dc C) v k.toNat i.toNat)
     rw [z, cs, hol, c1, Dn, Bool.and_assoc]; rfl
   ·refine ⟨?_, ?_⟩ <;> simp (disch := omega) only [ewZ, reduceCtorEq, seval, hSS, wC, c, ef, hf0, w0, zb, GR, c1, c2]
    ·have a := yp o
     have b := ym o
     rw [c1] at a b
     exact ⟨p4, a, b⟩
    ·have z := ih o ho
     rw [c1] at z
     replace z : K.b.norm (φ 0 [k, o, v, C, ((dc C).length : Int)]) = b2i (i2b o && claB (dc C) v k.toNat ((dc C).length : Int).toNat) := z
     have hol : holB (dc C) v i.toNat = false := by
      unfold holB
      rw [ef, decide_eq_false (show ¬ [f0, f1, f2, f3, f4].getD 0 0 <= v from c2)]; rfl
     show K.b.norm _ = b2i (i2b o && claB (dc C) v k.toNat i.toNat)
     rw [z, cs, hol, c1]; rfl
  ·obtain ⟨g0, g1, g2, g3, g4, eg, hg0, hg⟩ := A9 p1 (show (i + 1).toNat < (dc C).length by omega)
   by_cases c2 : f0 <= v /\ v < g0
   ·refine ⟨?_, ?_⟩ <;> simp (disch := omega) only [ewZ, reduceCtorEq, seval, hSS, wC, c, ef, eg, hf0, hg0, w0, zb, GR, c1, c2.1, c2.2]
    ·exact ⟨⟨p4, ⟨by omega, by omega⟩, fun _ => ⟨by omega, zx.1, zx.2.1⟩, fun _ => zx.2.2⟩, yp _, ym _⟩
    ·have z := ih (b2i (i2b o && bitS [f1, f2, f3, f4] k.toNat)) (bn _)
     replace z : K.b.norm (φ 0 [k, b2i (i2b o && bitS [f1, f2, f3, f4] k.toNat), v, C, i + 1]) = b2i (i2b (b2i (i2b o && bitS [f1, f2, f3, f4] k.toNat)) && claB (dc C) v k.toNat (i + 1).toNat) := z
     have hol : holB (dc C) v i.toNat = true := by
      unfold holB
      rw [ef, show i.toNat + 1 = (i + 1).toNat by omega, eg, decide_eq_true (show [f0, f1, f2, f3, f4].getD 0 0 <= v from c2.1), decide_eq_true (show v < [g0, g1, g2, g3, g4].getD 0 0 from c2.2), Bool.or_true]; rfl
     show K.b.norm _ = b2i (i2b o && claB (dc C) v k.toNat i.toNat)
     rw [z, cs, hol, Dn, Bool.and_assoc]; rfl
   ·refine ⟨?_, ?_⟩ <;> simp (disch := omega) only [ewZ, reduceCtorEq, seval, hSS, wC, c, ef, eg, hf0, hg0, w0, zb, GR, c1, c2]
    ·exact ⟨⟨p4, fun _ => ⟨by omega, by omega⟩⟩, yp _, ym _⟩
    ·have z := ih o ho
     replace z : K.b.norm (φ 0 [k, o, v, C, i + 1]) = b2i (i2b o && claB (dc C) v k.toNat (i + 1).toNat) := z
     have hol : holB (dc C) v i.toNat = false := by
      unfold holB
      rw [ef, show i.toNat + 1 = (i + 1).toNat by omega, eg, decide_eq_false (show ¬ (i + 1).toNat = (dc C).length by omega)]
      show (decide (f0 <= v) && (false || decide (v < g0))) = false
      rw [Bool.false_or, <- Bool.decide_and, decide_eq_false c2]
     show K.b.norm _ = b2i (i2b o && claB (dc C) v k.toNat i.toNat)
     rw [z, cs, hol]; rfl
 ·refine ⟨?_, ?_⟩ <;> simp (disch := omega) only [ewZ, reduceCtorEq, seval, hSS, wC, c]
  ·show o = b2i (i2b o && claB (dc C) v k.toNat i.toNat)
   rw [QU (by omega), Bool.and_true]
   exact nb ho
theorem cAbok : cAb.OK Tryd.prog G0 := Ctx.OK.addL (c := ⟨[], []⟩) Ctx.OK.nil okAd.1 rfl
theorem claA7 (T : List RL) (s : Int) (f : List Int) (i : Nat) : claA T s f i = (claB (T.getD 0 []) (valF 0 s f) i 0 && (claB (T.getD 1 []) (valF 1 s f) i 0 && (claB (T.getD 2 []) (valF 2 s f) i 0 && (claB (T.getD 3 []) (valF 3 s f) i 0 && (claB (T.getD 4 []) (valF 4 s f) i 0 && (claB (T.getD 5 []) (valF 5 s f) i 0 && claB (T.getD 6 []) (valF 6 s f) i 0)))))) := by
 unfold claA
 show List.all [0, 1, 2, 3, 4, 5, 6] _ = _
 simp only [List.all_cons, List.all_nil, Bool.and_true]
theorem okAb : Ae Tryd.prog G0 14 pAb leAb /\ PostOK leAb.ent Qq := by
 refine cAbok.nm.loopJ mixed muAb true ⟨_, _, _, Tryd.func14, rfl, rfl⟩ 9114 rfl rfl ?_
 go_invoke
 refine ⟨_, _, _, _, rfl, by kernel_rfl, ?_⟩
 intro s hs t0 ht0 l0 l1 l2 l3 l4 l5 l6 a0 ha0 a1 ha1 a2 ha2 a3 ha3 a4 ha4 kd hkd a6 ha6 ty hty co hco sq hsq ac hac wi hwi le hle w0 hw0 w1 hw1 w2 hw2 w3 hw3 w4 hw4 wk hwk A i hi hp φ hφ l hS hF ρ hρe hd
 have F9314 := hF 100009314 leAd.nm.ent rfl rfl
 simp only [eqL, Nat.reduceAdd] at hρe
 obtain ⟨⟨v1, hv1, hd1, hn1⟩, ⟨v2, hv2, hd2, hn2⟩⟩ := Jj (nmd hd 0 rfl) (nmd hd 1 rfl)
 obtain ⟨⟨v3, hv3, hd3, hn3⟩, ⟨v4, hv4, hd4, hn4⟩⟩ := Jj (nmd hd 2 rfl) (nmd hd 3 rfl)
 obtain ⟨⟨v5, hv5, hd5, hn5⟩, ⟨v6, hv6, hd6, hn6⟩⟩ := Jj (nmd hd 4 rfl) (nmd hd 5 rfl)
 obtain ⟨v7, hv7, hd7, hn7⟩ := nmd hd 6 rfl
 have hSS := Jj (Jj (Jj (Jj (Jj hS F9314) (Jj hρe hs)) (Jj (Jj ht0 ha0) (Jj ha1 (Jj ha2 ha3)))) (Jj (Jj (Jj ha4 hkd) (Jj ha6 (Jj hty hco))) (Jj (Jj hsq hac) (Jj hwi (Jj hle hw0))))) (Jj (Jj (Jj (Jj hw1 hw2) (Jj hw3 (Jj hw4 hwk))) (Jj (Jj hi hv1) (Jj hn1 (Jj hv2 hn2)))) (Jj (Jj (Jj hv3 hn3) (Jj hv4 (Jj hn4 hv5))) (Jj (Jj hn5 hv6) (Jj hn6 (Jj hv7 hn7)))))
 simp (disch := omega) only [Ah, Ent.nm_fn, hSS, ewZ, reduceCtorEq, seval] at hd1 hd2 hd3 hd4 hd5 hd6 hd7
 obtain ⟨p1, p2, p3, p4, p5, p6⟩ := hp
 replace p1 : pktP s [a0, a1, a2, a3, a4, kd, a6, ty, co, sq, ac, wi, le, w0, w1, w2, w3, w4, wk] := p1
 replace p2 : okT [t0, l0, l1, l2, l3, l4, l5, l6] := p2
 simp only [ewY, seval] at p3 p4 p5 p6
 by_cases c : i < t0
 ·have e1 : ¬ s > 1 := by have := p1.1; omega
  have e2 : a0 = 1 \/ a0 = 6 \/ a0 = 17 := p1.2
  have w0_ : IntKind.i64.wrap (i + 1) = i + 1 := i64w (by omega) (by omega)
  have e3 : ¬ ((¬a0 = 1 /\ ¬a0 = 6) /\ ¬a0 = 17) := by omega
  have es : s <= 1 := p1.1
  have b3 := u16r ha3
  have b4 := u16r ha4
  have b6 := u8r ha6
  have bs := u8r hs
  have u0 : IntKind.u32.wrap s = s := u32w (by omega) (by omega)
  have u3 : IntKind.u32.wrap a3 = a3 := u32w (by omega) (by omega)
  have u4 : IntKind.u32.wrap a4 = a4 := u32w (by omega) (by omega)
  have u6 : IntKind.u32.wrap (a6.tmod 64) = a6 % 64 := by rw [Int.tmod_eq_emod_of_nonneg b6.1]; exact u32w (by omega) (by omega)
  have n1 : IntKind.u32.wrap (if a0 = 1 then 0 else if a0 = 6 then 1 else 2) = (if a0 = 1 then 0 else if a0 = 6 then 1 else 2) := by split; rfl; split <;> rfl
  have n6 : IntKind.u32.wrap (if a0 = 6 then a6 % 64 else 0) = (if a0 = 6 then a6 % 64 else 0) := by split; exact u32w (by omega) (by omega); rfl
  simp (disch := omega) only [ewZ, reduceCtorEq, seval, es, true_imp_iff, e3, u0, u3, u4, u6] at hd1 hd2 hd3 hd4 hd5 hd6 hd7
  have y0 : leAd.ent.pre [i, 1, s, l0, 0] := ⟨(p2 0 (by decide)).1, (p2 0 (by decide)).2, ⟨p4, by show i < 256; omega⟩, Int.le_refl _, Int.natCast_nonneg _⟩
  have z0 := PostOK.use (vs := [v1]) okAd.2 rfl rfl ⟨hd1, trivial⟩ (by exact ⟨hi, rfl, u0, rfl, rfl, trivial⟩) y0
  replace z0 : v1 = b2i (i2b 1 && claB (dc l0) s i.toNat 0) := z0
  have y1 : leAd.ent.pre [i, v1, (if a0 = 1 then 0 else if a0 = 6 then 1 else 2), l1, 0] := ⟨(p2 1 (by decide)).1, (p2 1 (by decide)).2, ⟨p4, by show i < 256; omega⟩, Int.le_refl _, Int.natCast_nonneg _⟩
  have z1 := PostOK.use (vs := [v2]) okAd.2 rfl rfl ⟨hd2, trivial⟩ (by exact ⟨hi, hn1, n1, rfl, rfl, trivial⟩) y1
  replace z1 : v2 = b2i (i2b v1 && claB (dc l1) (if a0 = 1 then 0 else if a0 = 6 then 1 else 2) i.toNat 0) := z1
  have y2 : leAd.ent.pre [i, v2, a1, l2, 0] := ⟨(p2 2 (by decide)).1, (p2 2 (by decide)).2, ⟨p4, by show i < 256; omega⟩, Int.le_refl _, Int.natCast_nonneg _⟩
  have z2 := PostOK.use (vs := [v3]) okAd.2 rfl rfl ⟨hd3, trivial⟩ (by exact ⟨hi, hn2, ha1, rfl, rfl, trivial⟩) y2
  replace z2 : v3 = b2i (i2b v2 && claB (dc l2) a1 i.toNat 0) := z2
  have y3 : leAd.ent.pre [i, v3, a2, l3, 0] := ⟨(p2 3 (by decide)).1, (p2 3 (by decide)).2, ⟨p4, by show i < 256; omega⟩, Int.le_refl _, Int.natCast_nonneg _⟩
  have z3 := PostOK.use (vs := [v4]) okAd.2 rfl rfl ⟨hd4, trivial⟩ (by exact ⟨hi, hn3, ha2, rfl, rfl, trivial⟩) y3
  replace z3 : v4 = b2i (i2b v3 && claB (dc l3) a2 i.toNat 0) := z3
  have y4 : leAd.ent.pre [i, v4, a3, l4, 0] := ⟨(p2 4 (by decide)).1, (p2 4 (by decide)).2, ⟨p4, by show i < 256; omega⟩, Int.le_refl _, Int.natCast_nonneg _⟩
  have z4 := PostOK.use (vs := [v5]) okAd.2 rfl rfl ⟨hd5, trivial⟩ (by exact ⟨hi, hn4, u3, rfl, rfl, trivial⟩) y4
  replace z4 : v5 = b2i (i2b v4 && claB (dc l4) a3 i.toNat 0) := z4
  have y5 : leAd.ent.pre [i, v5, a4, l5, 0] := ⟨(p2 5 (by decide)).1, (p2 5 (by decide)).2, ⟨p4, by show i < 256; omega⟩, Int.le_refl _, Int.natCast_nonneg _⟩
  have z5 := PostOK.use (vs := [v6]) okAd.2 rfl rfl ⟨hd6, trivial⟩ (by exact ⟨hi, hn5, u4, rfl, rfl, trivial⟩) y5
  replace z5 : v6 = b2i (i2b v5 && claB (dc l5) a4 i.toNat 0) := z5
  have y6 : leAd.ent.pre [i, v6, (if a0 = 6 then a6 % 64 else 0), l6, 0] := ⟨(p2 6 (by decide)).1, (p2 6 (by decide)).2, ⟨p4, by show i < 256; omega⟩, Int.le_refl _, Int.natCast_nonneg _⟩
  have z6 := PostOK.use (vs := [v7]) okAd.2 rfl rfl ⟨hd7, trivial⟩ (by exact ⟨hi, hn6, n6, rfl, rfl, trivial⟩) y6
  replace z6 : v7 = b2i (i2b v6 && claB (dc l6) (if a0 = 6 then a6 % 64 else 0) i.toNat 0) := z6
  have z7 : i2b v7 = claA (tabs [t0, l0, l1, l2, l3, l4, l5, l6]) s [a0, a1, a2, a3, a4, kd, a6, ty, co, sq, ac, wi, le, w0, w1, w2, w3, w4, wk] i.toNat := by
   rw [claA7, z6, z5, z4, z3, z2, z1, z0]
   simp only [Dn, Bool.and_assoc]; rfl
  have cs : ((List.range t0.toNat).drop i.toNat) = i.toNat :: (List.range t0.toNat).drop (i + 1).toNat := by
   rw [List.drop_eq_getElem_cons (by rw [List.length_range]; omega), List.getElem_range, show i.toNat + 1 = (i + 1).toNat by omega]
  obtain ⟨A', hA'⟩ : ∃ A', (if i2b v7 = true then cd (dc A ++ [[i]]) else A) = A' := ⟨_, rfl⟩
  have dA' : dc A' = dc A ++ (if i2b v7 = true then [[i]] else []) := by
   rw [<- hA']
   split
   ·exact Ab _
   ·rw [List.append_nil]
  have lA : (dc A').length <= (dc A).length + 1 := by rw [dA', List.length_append]; split <;> simp
  have yp : lbAb.ent.pre [s, t0, l0, l1, l2, l3, l4, l5, l6, a0, a1, a2, a3, a4, kd, a6, ty, co, sq, ac, wi, le, w0, w1, w2, w3, w4, wk, A', i + 1] := ⟨p1, p2, p3, by show 0 <= i + 1; omega, by show i + 1 <= t0; omega, by show ((dc A').length : Int) <= i + 1; omega⟩
  have ym : muAb [s, t0, l0, l1, l2, l3, l4, l5, l6, a0, a1, a2, a3, a4, kd, a6, ty, co, sq, ac, wi, le, w0, w1, w2, w3, w4, wk, A', i + 1] < muAb [s, t0, l0, l1, l2, l3, l4, l5, l6, a0, a1, a2, a3, a4, kd, a6, ty, co, sq, ac, wi, le, w0, w1, w2, w3, w4, wk, A, i] := by show (t0 - (i + 1)).toNat < (t0 - i).toNat; omega
  have ih := hφ [s, t0, l0, l1, l2, l3, l4, l5, l6, a0, a1, a2, a3, a4, kd, a6, ty, co, sq, ac, wi, le, w0, w1, w2, w3, w4, wk, A', i + 1] ⟨hs, ht0, rfl, rfl, rfl, rfl, rfl, rfl, rfl, ha0, ha1, ha2, ha3, ha4, hkd, ha6, hty, hco, hsq, hac, hwi, hle, hw0, hw1, hw2, hw3, hw4, hwk, rfl, w0_, trivial⟩ yp ym
  replace ih : dc (φ 0 [s, t0, l0, l1, l2, l3, l4, l5, l6, a0, a1, a2, a3, a4, kd, a6, ty, co, sq, ac, wi, le, w0, w1, w2, w3, w4, wk, A', i + 1]) = dc A' ++ Au (((List.range t0.toNat).drop (i + 1).toNat).filter (claA (tabs [t0, l0, l1, l2, l3, l4, l5, l6]) s [a0, a1, a2, a3, a4, kd, a6, ty, co, sq, ac, wi, le, w0, w1, w2, w3, w4, wk])) := ih
  refine ⟨?_, ?_⟩
  ·simp (disch := omega) only [ewZ, reduceCtorEq, seval, hSS, c, e1, e3, u0, u3, u4, u6, w0_, hA']
   exact ⟨⟨y0, y1, y2, y3, y4, y5, y6, fun _ => by rw [List.length_append, List.length_singleton]; omega⟩, ⟨id, id⟩, yp, ym⟩
  ·simp (disch := omega) only [ewZ, reduceCtorEq, seval, hSS, c, e1, w0_, hA']
   show dc (φ 0 _) = dc A ++ Au (((List.range t0.toNat).drop i.toNat).filter (claA (tabs [t0, l0, l1, l2, l3, l4, l5, l6]) s [a0, a1, a2, a3, a4, kd, a6, ty, co, sq, ac, wi, le, w0, w1, w2, w3, w4, wk]))
   rw [ih, cs, dA', List.filter_cons, <- z7, List.append_assoc]
   congr 1
   by_cases m : i2b v7 = true
   ·rw [if_pos m, if_pos m]
    show [i] :: Au _ = [((i.toNat : Nat) : Int)] :: Au _
    rw [show ((i.toNat : Nat) : Int) = i by omega]
   ·rw [if_neg m, if_neg m]; rfl
 ·refine ⟨?_, ?_⟩ <;> simp (disch := omega) only [ewZ, reduceCtorEq, seval, hSS, c]
  ·show dc A = dc A ++ Au _
   have : ((List.range t0.toNat).drop i.toNat) = [] := List.drop_eq_nil_of_le (by rw [List.length_range]; omega)
   show dc A = dc A ++ Au (((List.range t0.toNat).drop i.toNat).filter _)
   rw [this]; show dc A = dc A ++ []; rw [List.append_nil]
theorem c14ok : c14.OK Tryd.prog G0 := Ctx.OK.addF (c := ⟨[], [(14, pAb, leAb)]⟩) (Ctx.OK.addL (c := ⟨[], []⟩) Ctx.OK.nil okAb.1 rfl) ok17.1 rfl
theorem Ss {ys : List Int} {s : Int} {f : List Int} (hR : tabR ys) (hv : JZ s f) : ∀ i, claA (tabs ys) s f i = Dm (tabs ys) s f i := fun i => by
 unfold claA Dm
 rw [Bool.eq_iff_iff, List.all_eq_true, List.all_eq_true]
 refine forall_congr' fun k => forall_congr' fun hk => ?_
 have hk := List.mem_range.1 hk
 have e : (tabs ys).getD k [] = dc (env ys (k + 1)) := by
  match k with
  | 0 | 1 | 2 | 3 | 4 | 5 | 6 => rfl
 rw [QV (by rw [e]; exact hR.2.2 k hk) (hv k hk).1]
theorem ok14 : EntryOK Tryd.prog G0 e14 /\ PostOK e14 Ln := by
 refine c14ok.nm.entryJ mixed true ?_
 go_invoke
 refine ⟨_, _, _, _, rfl, by kernel_rfl, ?_⟩
 intro t0 ht0 l0 l1 l2 l3 l4 l5 l6 s hs a0 ha0 a1 ha1 a2 ha2 a3 ha3 a4 ha4 kd hkd a6 ha6 ty hty co hco sq hsq ac hac wi hwi le hle w0 hw0 w1 hw1 w2 hw2 w3 hw3 w4 hw4 wk hwk hp l hF ρ hρe hd
 have F17 := hF 100000017 e17.nm rfl rfl
 have F9114 := hF 100009114 leAb.nm.ent rfl rfl
 simp only [eqL, Nat.reduceAdd] at hρe
 obtain ⟨⟨v1, hv1, hd1, hn1⟩, ⟨v2, hv2, hd2, hn2⟩⟩ := Jj (nmd hd 0 rfl) (nmd hd 1 rfl)
 have hSS := Jj (Jj (Jj (Jj F17 (Jj F9114 hρe)) (Jj ht0 (Jj hs ha0))) (Jj (Jj ha1 (Jj ha2 ha3)) (Jj (Jj ha4 hkd) (Jj ha6 hty)))) (Jj (Jj (Jj hco (Jj hsq hac)) (Jj (Jj hwi hle) (Jj hw0 hw1))) (Jj (Jj hw2 (Jj hw3 hw4)) (Jj (Jj hwk hv1) (Jj hn1 hv2))))
 simp (disch := omega) only [Ah, Ent.nm_fn, hSS, ewZ, reduceCtorEq, seval] at hd1 hd2
 have p1 : okT [t0, l0, l1, l2, l3, l4, l5, l6] := hp
 have z1 := (PostOK.use (os := [.b]) (vs := [v1]) ok17.2 rfl rfl ⟨hd1, trivial⟩) ⟨ht0, rfl, rfl, rfl, rfl, rfl, rfl, rfl, trivial⟩ p1
 replace z1 : (v1 = 1 /\ tabR [t0, l0, l1, l2, l3, l4, l5, l6]) \/ (v1 = 0 /\ ¬ tabR [t0, l0, l1, l2, l3, l4, l5, l6]) := z1
 rcases z1 with ⟨rfl, z1⟩ | ⟨rfl, z1⟩
 rotate_left
 ·refine ⟨?_, ?_⟩ <;> simp (disch := omega) only [ewZ, reduceCtorEq, seval, hSS]
  ·exact p1
  ·exact Or.inl ⟨z1, Ab _, rfl⟩
 by_cases hp' : pktP s [a0, a1, a2, a3, a4, kd, a6, ty, co, sq, ac, wi, le, w0, w1, w2, w3, w4, wk]
 ·have e1 : ¬ s > 1 := by have := hp'.1; omega
  have e2 : a0 = 1 \/ a0 = 6 \/ a0 = 17 := hp'.2
  have e3 : ¬ ((¬a0 = 1 /\ ¬a0 = 6) /\ ¬a0 = 17) := by omega
  have y2 : leAb.ent.pre [s, t0, l0, l1, l2, l3, l4, l5, l6, a0, a1, a2, a3, a4, kd, a6, ty, co, sq, ac, wi, le, w0, w1, w2, w3, w4, wk, cd [], 0] := ⟨hp', p1, z1.2.1, Int.le_refl _, z1.1, by show ((dc (cd [])).length : Int) <= 0; rw [Ab]; exact Int.le_refl _⟩
  have z2 := (PostOK.use (os := [.x]) (vs := [v2]) okAb.2 rfl rfl ⟨hd2, trivial⟩) (by exact ⟨hs, ht0, rfl, rfl, rfl, rfl, rfl, rfl, rfl, ha0, ha1, ha2, ha3, ha4, hkd, ha6, hty, hco, hsq, hac, hwi, hle, hw0, hw1, hw2, hw3, hw4, hwk, rfl, rfl, trivial⟩) y2
  replace z2 : dc v2 = dc (cd []) ++ Au ((List.range t0.toNat).filter (claA (tabs [t0, l0, l1, l2, l3, l4, l5, l6]) s [a0, a1, a2, a3, a4, kd, a6, ty, co, sq, ac, wi, le, w0, w1, w2, w3, w4, wk])) := z2
  rw [Ab, List.nil_append] at z2
  have hV := Qe hs hp' (by exact ⟨ha0, ha1, ha2, ha3, ha4, hkd, ha6, hty, hco, hsq, hac, hwi, hle, hw0, hw1, hw2, hw3, hw4, hwk, trivial⟩)
  refine ⟨?_, ?_⟩ <;> simp (disch := omega) only [ewZ, reduceCtorEq, seval, hSS, e1, e3]
  ·exact ⟨p1, fun _ => y2, fun h => h⟩
  ·refine Or.inr (Or.inr ⟨z1, hp', ?_, rfl⟩)
   show dc v2 = Au (allF t0.toNat _ _ _)
   rw [z2]
   unfold allF
   exact congrArg Au (List.filter_congr fun i _ => Ss z1 hV i)
 ·have e3 : s > 1 \/ ((¬a0 = 1 /\ ¬a0 = 6) /\ ¬a0 = 17) := Classical.byContradiction fun h => hp' ⟨by omega, by show a0 = 1 \/ a0 = 6 \/ a0 = 17; omega⟩
  refine ⟨?_, ?_⟩
  ·rcases e3 with e3 | e3 <;> simp (disch := omega) only [ewZ, reduceCtorEq, seval, hSS, e3]
   ·exact p1
   ·exact p1
  ·have x0 : ∀ a b : Int, dc a = [] -> b = 261 -> Ln [t0, l0, l1, l2, l3, l4, l5, l6, s, a0, a1, a2, a3, a4, kd, a6, ty, co, sq, ac, wi, le, w0, w1, w2, w3, w4, wk] [a, b] := fun a b ha hb => Or.inr (Or.inl ⟨z1, hp', ha, hb⟩)
   rcases e3 with e3 | e3 <;> simp (disch := omega) only [ewZ, reduceCtorEq, seval, hSS, e3]
   ·exact x0 _ _ (Ab _) rfl
   ·exact x0 _ _ (Ab _) rfl
end
end Go.Proofs.YtgpflpbldeflhaaDoor.Ew.Sr
set_option maxHeartbeats 8000000
namespace Go.Proofs.YtgpflpbldeflhaaDoor.Ew.Sr
open Go Go.RowKit
noncomputable section
def c3 : Ctx := ⟨[e12, e13, e14, e15, e16, e17, e18, e19, e11], []⟩
def pre3 (xs : List Int) : Prop := ∀ k, k < 7 -> rowsOK clK (dc (env xs (k + 1))) /\ ((dc (env xs (k + 1))).length : Int) <= 9223372036854775807
def b3 : Ent := ⟨3, 3, [tab, u8, fa], [], k7, .lt .b 1, z0, pre3⟩
def e3 : Ent := b3.fw (fnG Tryd.prog G0 b3 T2s)
theorem c3ok : c3.OK Tryd.prog G0 := Ctx.OK.addF (c := ⟨[e13, e14, e15, e16, e17, e18, e19, e11], []⟩) (Ctx.OK.addF (c := ⟨[e14, e15, e16, e17, e18, e19, e11], []⟩) (Ctx.OK.addF (c := ⟨[e15, e16, e17, e18, e19, e11], []⟩) (Ctx.OK.addF (c := ⟨[e16, e17, e18, e19, e11], []⟩) (Ctx.OK.addF (c := ⟨[e17, e18, e19, e11], []⟩) (Ctx.OK.addF (c := ⟨[e18, e19, e11], []⟩) (Ctx.OK.addF (c := ⟨[e19, e11], []⟩) (Ctx.OK.addF (c := ⟨[e11], []⟩) (Ctx.OK.addF (c := ⟨[], []⟩) Ctx.OK.nil ok11.1 rfl) ok19.1 rfl) ok18.1 rfl) ok17.1 rfl) ok16.1 rfl) ok15.1 rfl) ok14.1 rfl) ok13.1 rfl) ok12.1 rfl
theorem QW {A : List Nat} (h : ∀ a ∈ A, a < 256) : firI A = if 0 < ((Au A).length : Int) then IntKind.i64.wrap (((Au A).getD 0 []).getD 0 0) else -1 := by
 cases A with
 | nil => rfl
 | cons a A =>
   have := h a (List.mem_cons_self ..)
   rw [if_pos (by show (0 : Int) < ((Au (a :: A)).length : Int); unfold Au; simp only [List.map_cons, List.length_cons]; omega)]
   show (a : Int) = IntKind.i64.wrap (a : Int)
   exact (i64w (by omega) (by omega)).symm
theorem QX {A : List Nat} (h : ∀ a ∈ A, a < 256) : rowsOK [.i .i64] (Au A) := fun r hr => by
 unfold Au at hr
 obtain ⟨a, ha, rfl⟩ := List.mem_map.1 hr
 have := h a ha
 exact ⟨i64w (by omega) (by omega), trivial⟩
theorem Su {n : Nat} {T : List RL} {s : Int} {f : List Int} (hn : n <= 256) : (∀ a ∈ allF n T s f, a < 256) /\ (allF n T s f).length <= 256 := by
 unfold allF
 refine ⟨fun a ha => ?_, ?_⟩
 ·have := List.mem_range.1 (List.mem_filter.1 ha).1; omega
 ·have := List.length_filter_le (Dm T s f) (List.range n)
  rw [List.length_range] at this; omega
theorem ok3 : EntryOK Tryd.prog G0 e3 /\ PostOK e3 T2s := by
 refine c3ok.nm.entryJ mixed true ?_
 go_invoke
 refine ⟨_, _, _, _, rfl, by kernel_rfl, ?_⟩
 intro t0 ht0 l0 l1 l2 l3 l4 l5 l6 s hs a0 ha0 a1 ha1 a2 ha2 a3 ha3 a4 ha4 kd hkd a6 ha6 ty hty co hco sq hsq ac hac wi hwi le hle w0 hw0 w1 hw1 w2 hw2 w3 hw3 w4 hw4 wk hwk hp l hF ρ hρe hd
 have F11 := hF 100000011 e11.nm rfl rfl
 have F12 := hF 100000012 e12.nm rfl rfl
 have F13 := hF 100000013 e13.nm rfl rfl
 have F14 := hF 100000014 e14.nm rfl rfl
 have F15 := hF 100000015 e15.nm rfl rfl
 have F16 := hF 100000016 e16.nm rfl rfl
 have F17 := hF 100000017 e17.nm rfl rfl
 have F18 := hF 100000018 e18.nm rfl rfl
 have F19 := hF 100000019 e19.nm rfl rfl
 simp only [eqL, Nat.reduceAdd] at hρe
 obtain ⟨⟨v1, hv1, hd1, hn1⟩, ⟨v2, hv2, hd2, hn2⟩⟩ := Jj (nmd hd 0 rfl) (nmd hd 1 rfl)
 obtain ⟨⟨v3, hv3, hd3, hn3⟩, ⟨v4, hv4, hd4, hn4⟩⟩ := Jj (nmd hd 2 rfl) (nmd hd 3 rfl)
 obtain ⟨⟨v5, hv5, hd5, hn5⟩, ⟨v6, hv6, hd6, hn6⟩⟩ := Jj (nmd hd 4 rfl) (nmd hd 5 rfl)
 obtain ⟨⟨v7, hv7, hd7, hn7⟩, ⟨v8, hv8, hd8, hn8⟩⟩ := Jj (nmd hd 6 rfl) (nmd hd 7 rfl)
 obtain ⟨⟨v9, hv9, hd9, hn9⟩, ⟨v10, hv10, hd10, hn10⟩⟩ := Jj (nmd hd 8 rfl) (nmd hd 9 rfl)
 obtain ⟨⟨v11, hv11, hd11, hn11⟩, ⟨v12, hv12, hd12, hn12⟩⟩ := Jj (nmd hd 10 rfl) (nmd hd 11 rfl)
 obtain ⟨⟨v13, hv13, hd13, hn13⟩, ⟨v14, hv14, hd14, hn14⟩⟩ := Jj (nmd hd 12 rfl) (nmd hd 13 rfl)
 obtain ⟨⟨v15, hv15, hd15, hn15⟩, ⟨v16, hv16, hd16, hn16⟩⟩ := Jj (nmd hd 14 rfl) (nmd hd 15 rfl)
 simp only [Ah] at hn1 hn10 hn12 hn13 hn14
 have hSS := Jj (Jj (Jj (Jj (Jj F11 (Jj F12 F13)) (Jj F14 (Jj F15 F16))) (Jj (Jj F17 (Jj F18 F19)) (Jj (Jj hρe ht0) (Jj hs ha0)))) (Jj (Jj (Jj ha1 (Jj ha2 ha3)) (Jj (Jj ha4 hkd) (Jj ha6 hty))) (Jj (Jj hco (Jj hsq hac)) (Jj (Jj hwi hle) (Jj hw0 hw1))))) (Jj (Jj (Jj (Jj hw2 (Jj hw3 hw4)) (Jj hwk (Jj hv1 hn1))) (Jj (Jj hv2 (Jj hv3 hv4)) (Jj (Jj hv5 hv6) (Jj hv7 hv8)))) (Jj (Jj (Jj hv9 (Jj hv10 hn10)) (Jj (Jj hv11 hv12) (Jj hn12 hv13))) (Jj (Jj hn13 (Jj hv14 hn14)) (Jj (Jj hv15 hn15) (Jj hv16 hn16)))))
 simp (disch := omega) only [Ah, Ent.nm_fn, hSS, ewZ, reduceCtorEq, seval] at hd1 hd2 hd3 hd4 hd5 hd6 hd7 hd8 hd9 hd10 hd11 hd12 hd13 hd14 hd15 hd16
 have q : ∀ k, k < 7 -> rowsOK clK (dc (env [t0, l0, l1, l2, l3, l4, l5, l6] (k + 1))) /\ ((dc (env [t0, l0, l1, l2, l3, l4, l5, l6] (k + 1))).length : Int) <= 9223372036854775807 := fun k hk => match k, hk with | 0, _ => hp 0 (by decide) | 1, _ => hp 1 (by decide) | 2, _ => hp 2 (by decide) | 3, _ => hp 3 (by decide) | 4, _ => hp 4 (by decide) | 5, _ => hp 5 (by decide) | 6, _ => hp 6 (by decide)
 have y11 : e11.pre [] := trivial
 refine ⟨?_, trivial⟩
 have wl0 : IntKind.i64.wrap ((dc l0).length : Int) = ((dc l0).length : Int) := by have : ((dc l0).length : Int) <= 9223372036854775807 := (q 0 (by decide)).2; exact i64w (by omega) this
 have wl1 : IntKind.i64.wrap ((dc l1).length : Int) = ((dc l1).length : Int) := by have : ((dc l1).length : Int) <= 9223372036854775807 := (q 1 (by decide)).2; exact i64w (by omega) this
 have wl2 : IntKind.i64.wrap ((dc l2).length : Int) = ((dc l2).length : Int) := by have : ((dc l2).length : Int) <= 9223372036854775807 := (q 2 (by decide)).2; exact i64w (by omega) this
 have wl3 : IntKind.i64.wrap ((dc l3).length : Int) = ((dc l3).length : Int) := by have : ((dc l3).length : Int) <= 9223372036854775807 := (q 3 (by decide)).2; exact i64w (by omega) this
 have wl4 : IntKind.i64.wrap ((dc l4).length : Int) = ((dc l4).length : Int) := by have : ((dc l4).length : Int) <= 9223372036854775807 := (q 4 (by decide)).2; exact i64w (by omega) this
 have wl5 : IntKind.i64.wrap ((dc l5).length : Int) = ((dc l5).length : Int) := by have : ((dc l5).length : Int) <= 9223372036854775807 := (q 5 (by decide)).2; exact i64w (by omega) this
 have wl6 : IntKind.i64.wrap ((dc l6).length : Int) = ((dc l6).length : Int) := by have : ((dc l6).length : Int) <= 9223372036854775807 := (q 6 (by decide)).2; exact i64w (by omega) this
 by_cases h0 : ((dc l0).length : Int) > 80
 ·simp (disch := omega) only [ewZ, reduceCtorEq, seval, hSS, wl0, wl1, wl2, wl3, wl4, wl5, wl6, h0]
  first | exact y11 | exact trivial
 by_cases h1 : ((dc l1).length : Int) > 80
 ·simp (disch := omega) only [ewZ, reduceCtorEq, seval, hSS, wl0, wl1, wl2, wl3, wl4, wl5, wl6, h0, h1]
  first | exact y11 | exact trivial
 by_cases h2 : ((dc l2).length : Int) > 80
 ·simp (disch := omega) only [ewZ, reduceCtorEq, seval, hSS, wl0, wl1, wl2, wl3, wl4, wl5, wl6, h0, h1, h2]
  first | exact y11 | exact trivial
 by_cases h3 : ((dc l3).length : Int) > 80
 ·simp (disch := omega) only [ewZ, reduceCtorEq, seval, hSS, wl0, wl1, wl2, wl3, wl4, wl5, wl6, h0, h1, h2, h3]
  first | exact y11 | exact trivial
 by_cases h4 : ((dc l4).length : Int) > 80
 ·simp (disch := omega) only [ewZ, reduceCtorEq, seval, hSS, wl0, wl1, wl2, wl3, wl4, wl5, wl6, h0, h1, h2, h3, h4]
  first | exact y11 | exact trivial
 by_cases h5 : ((dc l5).length : Int) > 80
 ·simp (disch := omega) only [ewZ, reduceCtorEq, seval, hSS, wl0, wl1, wl2, wl3, wl4, wl5, wl6, h0, h1, h2, h3, h4, h5]
  first | exact y11 | exact trivial
 by_cases h6 : ((dc l6).length : Int) > 80
 ·simp (disch := omega) only [ewZ, reduceCtorEq, seval, hSS, wl0, wl1, wl2, wl3, wl4, wl5, wl6, h0, h1, h2, h3, h4, h5, h6]
  first | exact y11 | exact trivial
 have y : okT [t0, l0, l1, l2, l3, l4, l5, l6] := fun k hk => match k, hk with | 0, _ => ⟨(q 0 (by decide)).1, by show ((dc l0).length : Int) <= 1000000; omega⟩ | 1, _ => ⟨(q 1 (by decide)).1, by show ((dc l1).length : Int) <= 1000000; omega⟩ | 2, _ => ⟨(q 2 (by decide)).1, by show ((dc l2).length : Int) <= 1000000; omega⟩ | 3, _ => ⟨(q 3 (by decide)).1, by show ((dc l3).length : Int) <= 1000000; omega⟩ | 4, _ => ⟨(q 4 (by decide)).1, by show ((dc l4).length : Int) <= 1000000; omega⟩ | 5, _ => ⟨(q 5 (by decide)).1, by show ((dc l5).length : Int) <= 1000000; omega⟩ | 6, _ => ⟨(q 6 (by decide)).1, by show ((dc l6).length : Int) <= 1000000; omega⟩
 have z12 := (PostOK.use (os := [kJ, .x, .x, .x, .x, .x, .x, .x]) (vs := [v1, v2, v3, v4, v5, v6, v7, v8]) ok12.2 rfl rfl ⟨hd1, hd2, hd3, hd4, hd5, hd6, hd7, hd8, trivial⟩) ⟨ht0, rfl, rfl, rfl, rfl, rfl, rfl, rfl, trivial⟩ y
 replace z12 : v1 = t0 /\ ∀ k, k < 7 -> dc (env [v1, v2, v3, v4, v5, v6, v7, v8] (k + 1)) = dc (env [t0, l0, l1, l2, l3, l4, l5, l6] (k + 1)) := z12
 obtain ⟨rfl, zq⟩ := z12
 have q0 : dc v2 = dc l0 := zq 0 (by decide)
 have q1 : dc v3 = dc l1 := zq 1 (by decide)
 have q2 : dc v4 = dc l2 := zq 2 (by decide)
 have q3 : dc v5 = dc l3 := zq 3 (by decide)
 have q4 : dc v6 = dc l4 := zq 4 (by decide)
 have q5 : dc v7 = dc l5 := zq 5 (by decide)
 have q6 : dc v8 = dc l6 := zq 6 (by decide)
 have y' : okT [v1, v2, v3, v4, v5, v6, v7, v8] := fun k hk => by rw [zq k hk]; exact y k hk
 have hT : tabR [v1, v2, v3, v4, v5, v6, v7, v8] ↔ tabR [v1, l0, l1, l2, l3, l4, l5, l6] := ⟨fun ⟨a, b, c⟩ => ⟨a, b, fun k hk => by have := c k hk; rw [zq k hk] at this; exact this⟩, fun ⟨a, b, c⟩ => ⟨a, b, fun k hk => by rw [zq k hk]; exact c k hk⟩⟩
 have hB : tabs [v1, v2, v3, v4, v5, v6, v7, v8] = tabs [v1, l0, l1, l2, l3, l4, l5, l6] := by show [dc v2, dc v3, dc v4, dc v5, dc v6, dc v7, dc v8] = _; rw [q0, q1, q2, q3, q4, q5, q6]; rfl
 have y13 : e13.pre [v1, l0, l1, l2, l3, l4, l5, l6, s, a0, a1, a2, a3, a4, kd, a6, ty, co, sq, ac, wi, le, w0, w1, w2, w3, w4, wk] := fun k hk => match k, hk with | 0, _ => y 0 (by decide) | 1, _ => y 1 (by decide) | 2, _ => y 2 (by decide) | 3, _ => y 3 (by decide) | 4, _ => y 4 (by decide) | 5, _ => y 5 (by decide) | 6, _ => y 6 (by decide)
 have z13 := (PostOK.use (os := [.x, kJ]) (vs := [v9, v10]) ok13.2 rfl rfl ⟨hd9, hd10, trivial⟩) (by exact ⟨ht0, rfl, rfl, rfl, rfl, rfl, rfl, rfl, hs, ha0, ha1, ha2, ha3, ha4, hkd, ha6, hty, hco, hsq, hac, hwi, hle, hw0, hw1, hw2, hw3, hw4, hwk, trivial⟩) y13
 have z14 := (PostOK.use (os := [.x, kJ]) (vs := [v11, v12]) ok14.2 rfl rfl ⟨hd11, hd12, trivial⟩) (by exact ⟨hn1, rfl, rfl, rfl, rfl, rfl, rfl, rfl, hs, ha0, ha1, ha2, ha3, ha4, hkd, ha6, hty, hco, hsq, hac, hwi, hle, hw0, hw1, hw2, hw3, hw4, hwk, trivial⟩) y'
 have z15 := (PostOK.use (os := [kJ, kJ]) (vs := [v13, v14]) ok15.2 rfl rfl ⟨hd13, hd14, trivial⟩) (by exact ⟨ht0, rfl, rfl, rfl, rfl, rfl, rfl, rfl, hs, ha0, ha1, ha2, ha3, ha4, hkd, ha6, hty, hco, hsq, hac, hwi, hle, hw0, hw1, hw2, hw3, hw4, hwk, trivial⟩) y13
 have z16 := (PostOK.use (os := [.b]) (vs := [v15]) ok16.2 rfl rfl ⟨hd15, trivial⟩) ⟨ht0, rfl, rfl, rfl, rfl, rfl, rfl, rfl, trivial⟩ y
 have z17 := (PostOK.use (os := [.b]) (vs := [v16]) ok17.2 rfl rfl ⟨hd16, trivial⟩) ⟨hn1, rfl, rfl, rfl, rfl, rfl, rfl, rfl, trivial⟩ y'
 replace z13 : (¬ tabR [v1, l0, l1, l2, l3, l4, l5, l6] /\ dc v9 = [] /\ v10 = 280) \/ (tabR [v1, l0, l1, l2, l3, l4, l5, l6] /\ ¬ pktP s [a0, a1, a2, a3, a4, kd, a6, ty, co, sq, ac, wi, le, w0, w1, w2, w3, w4, wk] /\ dc v9 = [] /\ v10 = 261) \/ (tabR [v1, l0, l1, l2, l3, l4, l5, l6] /\ pktP s [a0, a1, a2, a3, a4, kd, a6, ty, co, sq, ac, wi, le, w0, w1, w2, w3, w4, wk] /\ dc v9 = Au (allF v1.toNat (tabs [v1, l0, l1, l2, l3, l4, l5, l6]) s [a0, a1, a2, a3, a4, kd, a6, ty, co, sq, ac, wi, le, w0, w1, w2, w3, w4, wk]) /\ v10 = 0) := z13
 replace z14 : (¬ tabR [v1, v2, v3, v4, v5, v6, v7, v8] /\ dc v11 = [] /\ v12 = 280) \/ (tabR [v1, v2, v3, v4, v5, v6, v7, v8] /\ ¬ pktP s [a0, a1, a2, a3, a4, kd, a6, ty, co, sq, ac, wi, le, w0, w1, w2, w3, w4, wk] /\ dc v11 = [] /\ v12 = 261) \/ (tabR [v1, v2, v3, v4, v5, v6, v7, v8] /\ pktP s [a0, a1, a2, a3, a4, kd, a6, ty, co, sq, ac, wi, le, w0, w1, w2, w3, w4, wk] /\ dc v11 = Au (allF v1.toNat (tabs [v1, v2, v3, v4, v5, v6, v7, v8]) s [a0, a1, a2, a3, a4, kd, a6, ty, co, sq, ac, wi, le, w0, w1, w2, w3, w4, wk]) /\ v12 = 0) := z14
 replace z15 : (¬ tabR [v1, l0, l1, l2, l3, l4, l5, l6] /\ [v13, v14] = [-1, 280]) \/ (tabR [v1, l0, l1, l2, l3, l4, l5, l6] /\ ¬ pktP s [a0, a1, a2, a3, a4, kd, a6, ty, co, sq, ac, wi, le, w0, w1, w2, w3, w4, wk] /\ [v13, v14] = [-1, 261]) \/ (tabR [v1, l0, l1, l2, l3, l4, l5, l6] /\ pktP s [a0, a1, a2, a3, a4, kd, a6, ty, co, sq, ac, wi, le, w0, w1, w2, w3, w4, wk] /\ [v13, v14] = [firI (allF v1.toNat (tabs [v1, l0, l1, l2, l3, l4, l5, l6]) s [a0, a1, a2, a3, a4, kd, a6, ty, co, sq, ac, wi, le, w0, w1, w2, w3, w4, wk]), 0]) := z15
 replace z16 : (v15 = 1 /\ tabR [v1, l0, l1, l2, l3, l4, l5, l6]) \/ (v15 = 0 /\ ¬ tabR [v1, l0, l1, l2, l3, l4, l5, l6]) := z16
 replace z17 : (v16 = 1 /\ tabR [v1, v2, v3, v4, v5, v6, v7, v8]) \/ (v16 = 0 /\ ¬ tabR [v1, v2, v3, v4, v5, v6, v7, v8]) := z17
 rw [hT] at z14 z17
 rw [hB] at z14
 have fin : ∃ A, (∀ a ∈ A, a < 256) /\ A.length <= 256 /\ dc v9 = Au A /\ dc v11 = Au A /\ v10 = v12 /\ v14 = v12 /\ v13 = firI A /\ v15 = v16 := by
  by_cases r : tabR [v1, l0, l1, l2, l3, l4, l5, l6]
  ·have e1 := (z16.resolve_right fun h => h.2 r).1
   have e2 := (z17.resolve_right fun h => h.2 r).1
   have z13 := z13.resolve_left fun h => h.1 r
   have z14 := z14.resolve_left fun h => h.1 r
   have z15 := z15.resolve_left fun h => h.1 r
   by_cases m : pktP s [a0, a1, a2, a3, a4, kd, a6, ty, co, sq, ac, wi, le, w0, w1, w2, w3, w4, wk]
   ·obtain ⟨_, _, j1, j2⟩ := z13.resolve_left fun h => h.2.1 m
    obtain ⟨_, _, b1, b2⟩ := z14.resolve_left fun h => h.2.1 m
    obtain ⟨_, _, c1⟩ := z15.resolve_left fun h => h.2.1 m
    simp only [List.cons.injEq, and_true] at c1
    have n := Su (T := tabs [v1, l0, l1, l2, l3, l4, l5, l6]) (s := s) (f := [a0, a1, a2, a3, a4, kd, a6, ty, co, sq, ac, wi, le, w0, w1, w2, w3, w4, wk]) (show v1.toNat <= 256 by have : v1 <= 256 := r.2.1; omega)
    exact ⟨_, n.1, n.2, j1, b1, j2.trans b2.symm, c1.2.trans b2.symm, c1.1, e1.trans e2.symm⟩
   ·obtain ⟨_, _, j1, j2⟩ := z13.resolve_right fun h => m h.2.1
    obtain ⟨_, _, b1, b2⟩ := z14.resolve_right fun h => m h.2.1
    obtain ⟨_, _, c1⟩ := z15.resolve_right fun h => m h.2.1
    simp only [List.cons.injEq, and_true] at c1
    exact ⟨[], fun _ h => (by cases h), Nat.zero_le _, j1, b1, j2.trans b2.symm, c1.2.trans b2.symm, c1.1, e1.trans e2.symm⟩
  ·have e1 := (z16.resolve_left fun h => r h.2).1
   have e2 := (z17.resolve_left fun h => r h.2).1
   obtain ⟨_, j1, j2⟩ := z13.resolve_right fun h => h.elim (fun h => r h.1) fun h => r h.1
   obtain ⟨_, b1, b2⟩ := z14.resolve_right fun h => h.elim (fun h => r h.1) fun h => r h.1
   obtain ⟨_, c1⟩ := z15.resolve_right fun h => h.elim (fun h => r h.1) fun h => r h.1
   simp only [List.cons.injEq, and_true] at c1
   exact ⟨[], fun _ h => (by cases h), Nat.zero_le _, j1, b1, j2.trans b2.symm, c1.2.trans b2.symm, c1.1, e1.trans e2.symm⟩
 clear z13 z14 z15 z16 z17
 obtain ⟨A, f1, f2, f3, f4, rfl, rfl, f7, rfl⟩ := fin
 have lA : ((Au A).length : Int) <= 256 := by unfold Au; rw [List.length_map]; omega
 have y18 : e18.pre [v9, v11] := ⟨f3.trans f4.symm, by show rowsOK [.i .i64] (dc v9); rw [f3]; exact QX f1, by show ((dc v9).length : Int) <= 1000000; rw [f3]; omega⟩
 have y19 : e19.pre [v1, l0, l1, l2, l3, l4, l5, l6, v1, v2, v3, v4, v5, v6, v7, v8] := ⟨rfl, fun k hk => match k, hk with | 0, _ => ⟨zq 0 (by decide), y 0 (by decide)⟩ | 1, _ => ⟨zq 1 (by decide), y 1 (by decide)⟩ | 2, _ => ⟨zq 2 (by decide), y 2 (by decide)⟩ | 3, _ => ⟨zq 3 (by decide), y 3 (by decide)⟩ | 4, _ => ⟨zq 4 (by decide), y 4 (by decide)⟩ | 5, _ => ⟨zq 5 (by decide), y 5 (by decide)⟩ | 6, _ => ⟨zq 6 (by decide), y 6 (by decide)⟩⟩
 have wA : IntKind.i64.wrap ((Au A).length : Int) = ((Au A).length : Int) := i64w (by omega) (by omega)
 have fw := QW f1
 rw [<- f7] at fw
 simp (disch := omega) only [ewZ, reduceCtorEq, seval, hSS, wl0, wl1, wl2, wl3, wl4, wl5, wl6, h0, h1, h2, h3, h4, h5, h6, f4, wA]
 exact ⟨⟨y, y13, y', y13, id, y, y', y18, fun _ => y19, fun _ => trivial⟩, fw⟩
end
end Go.Proofs.YtgpflpbldeflhaaDoor.Ew.Sr
namespace Go.Proofs.YtgpflpbldeflhaaDoor
open Go
set_option maxRecDepth 100000
theorem QY : Tryd.prog.laidByTextLater [("baffle/bafflelaw26.full", Rows.laid_baffle_bafflelaw26_full), ("baffle/compile.lasts", Rows.laid_baffle_compile_lasts), ("baffle/compile.protocols", Rows.laid_baffle_compile_protocols)] [.data, .data, .widerDeep] true :=
 Program.laidByTextLater_by_one 24 8 8 (by kernel_rfl) (by kernel_rfl) (by kernel_rfl) (by kernel_rfl) (by kernel_rfl) (by kernel_rfl) (fun _ _ => by kernel_rfl)
theorem LO : Tryd.pinned.checked.prog.headLifts.contains "ownunsafe" = false := by kernel_rfl
theorem tie : Tryd.prog.laidByTextLater [("baffle/compile.lasts", Rows.laid_baffle_compile_lasts), ("baffle/compile.protocols", Rows.laid_baffle_compile_protocols)] [.data, .widerDeep] true :=
 Program.laidByTextLater.sub QY ["baffle/compile.lasts", "baffle/compile.protocols"] (by kernel_rfl) (by kernel_rfl)
theorem Fq : Rows.compileFindsRow.laidByTextAt .later Tryd.pinned [.data, .widerDeep] true :=
 OpenClaim.laidByTextAt_later rfl rfl tie LO
end Go.Proofs.YtgpflpbldeflhaaDoor
namespace Go.Proofs.YtgpflpbldeflhaaDoor
namespace Rows
def Hu : Claim7 := { stood := { row := compileFindsRow, standIns := [], harness := (true, "147a168b2cef69ca9cbcb93f052d9566e45e0c97b9ce6d0143d5b45d70c3c2bc"), looks := false }, kinds := [], alts := [], laidByText := true, laidKinds := [.data, .widerDeep], laidTests := true, laidLooks := .later }
def CompileFindsCardSaid : Prop := Claim7.holds Tryd.pinned (.plain (OpenSpec.ofChange compileFindsSpec)) Hu
end Rows
end Go.Proofs.YtgpflpbldeflhaaDoor
