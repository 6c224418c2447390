/- Texts that the claim needs, set narrow. -/
import Derived.Test.Ytnockichpnaoeaat5
set_option linter.unusedVariables false
set_option linter.unusedSimpArgs false
namespace Go.Proofs.Ytnockichpnaoeaa.Ew
open Go Go.RowKit
noncomputable section
theorem Ej {p : List Int -> Bool} : ∀ {l : RL} {n : Int}, (∀ r ∈ l, p r = false) -> ixR p l n = -1
 | [], _, _ => rfl
 | r :: l, n, h => by
   unfold ixR
   rw [h r (List.mem_cons_self ..)]
   exact Ej fun r' hr => h r' (List.mem_cons_of_mem _ hr)
theorem Dq {p : List Int -> Bool} : ∀ {X Y : RL} {r : List Int} {n : Int}, (∀ r ∈ X, p r = false) -> p r = true -> ixR p (X ++ r :: Y) n = n + X.length
 | [], Y, r, n, _, hp => by
   show (if p r = true then n else ixR p Y (n + 1)) = _
   rw [if_pos hp]; simp
 | a :: X, Y, r, n, h, hp => by
   show (if p a = true then n else ixR p (X ++ r :: Y) (n + 1)) = _
   rw [h a (List.mem_cons_self ..), if_neg (by decide), Dq (fun r' hr => h r' (List.mem_cons_of_mem _ hr)) hp, List.length_cons]
   omega
theorem CW (p : List Int -> Bool) : ∀ (l : RL), (∀ r ∈ l, p r = false) \/ ∃ X r Y, l = X ++ r :: Y /\ (∀ r ∈ X, p r = false) /\ p r = true
 | [] => Or.inl fun _ h => by cases h
 | a :: l => by
   by_cases ha : p a = true
   ·exact Or.inr ⟨[], a, l, rfl, (fun _ h => by cases h), ha⟩
   ·rcases CW p l with h | ⟨X, r, Y, e, h1, h2⟩
    ·exact Or.inl fun r hr => by
      rcases List.mem_cons.1 hr with rfl | hr
      ·simpa using ha
      ·exact h r hr
    ·refine Or.inr ⟨a :: X, r, Y, by rw [e]; rfl, fun r hr => ?_, h2⟩
     rcases List.mem_cons.1 hr with rfl | hr
     ·simpa using ha
     ·exact h1 r hr
def RFW (now bu le : Int) (S T : RL) (w : Int) (A B : RL) : Prop := ∃ Q, WOK now bu le S T Q w /\ RF now T Q A B
section
variable {now bu le w : Int} {S T : RL} {A B : RL}
theorem RFW.drop (h : RFW now bu le S T w A B) {i : Nat} (hi : i < T.length) (hd : 0 < gC T i 4) :
 RFW now bu (le - 1) (dpW now (S, T) i).1 (dpW now (S, T) i).2 w (wiR A i) (wiR B i) /\ (dpW now (S, T) i).2.length = T.length /\ gC (dpW now (S, T) i).2 i 4 = 0 /\ ∀ y, y ≠ i -> rowT (dpW now (S, T) i).2 y = rowT T y := by
 obtain ⟨Q, ok, hr⟩ := h
 obtain ⟨X, Y, q1, q2, q3, q4, q5⟩ := ok.drop hi hd
 exact ⟨⟨_, q2, hr.drop ok hi q1 q4 q3⟩, q3, q5, fun y hy => E2 (q4 y hy).1 (q4 y hy).2.1 (q4 y hy).2.2⟩
theorem RFW.put (h : RFW now bu le S T w A B) {i : Nat} {d : Int} (hi : i < T.length) (hz : gC T i 4 = 0) (hd : now < d /\ d <= now + 2147483648) :
 RFW now bu (le + 1) (ptW now d (S, T) i).1 (ptW now d (S, T) i).2 w (puR now A i d) B /\ (ptW now d (S, T) i).2.length = T.length := by
 obtain ⟨Q, ok, hr⟩ := h
 obtain ⟨q1, q2, q3, q4, q5, q6⟩ := ok.put hi hz hd
 have hi' : i < (putT T i (lvF now d) (blk (lvF now d) d % 512) d (gC S (kW now d).toNat 1)).length := by rw [q2]; exact hi
 have e1 : (locI now (putT T i (lvF now d) (blk (lvF now d) d % 512) d (gC S (kW now d).toNat 1)) i).toNat = (kW now d).toNat := by
  unfold locI
  rw [q4, q5, q6]
  rfl
 have hk := q1.kq hi' (by rw [q6]; exact hd.1)
 have h8 := q1.loc_lt hi' (by rw [q6]; exact hd.1)
 rw [e1] at hk h8
 exact ⟨⟨_, q1, hr.put ok hi hz hd.1 q2 q3 q4 q5 q6 hk h8⟩, q2⟩
theorem RF.mem {Q : Nat -> List Nat} (ok : WOK now bu le S T Q w) (hr : RF now T Q A B) {i : Nat} : (rowT T i ∈ A ↔ i < T.length /\ now < gC T i 4) /\ (rowT T i ∈ B ↔ i < T.length /\ 0 < gC T i 4 /\ gC T i 4 <= now) := by
 obtain ⟨⟨la, rfl, nd, h1, h2⟩, rfl⟩ := hr
 have inj : ∀ {l : List Nat}, rowT T i ∈ l.map (rowT T) ↔ i ∈ l := fun {l} => by
  rw [List.mem_map]
  constructor
  ·rintro ⟨j, hj, e⟩
   have : (j : Int) = (i : Int) := by injection e
   have : j = i := by omega
   exact this ▸ hj
  ·intro hm; exact ⟨i, hm, rfl⟩
 rw [inj, inj]
 constructor
 ·constructor
  ·intro hm; exact h1 i hm
  ·rintro ⟨a, b⟩
   have hm := ok.inn i a (by have := ok.tm; omega)
   rw [ok.kq a b] at hm
   have h8 := ok.loc_lt a b
   rw [ok.kq a b] at h8
   rw [<- h2 _ h8] at hm
   exact (List.mem_filter.1 hm).1
 ·constructor
  ·intro hm
   have a := ok.lk.qc _ i hm
   obtain ⟨b, c⟩ := ok.out _ i hm
   refine ⟨a, b, ?_⟩
   by_cases hc : gC T i 4 <= now
   ·exact hc
   ·have := ok.loc_lt a (by omega); omega
  ·rintro ⟨a, b, c⟩
   have hm := ok.inn i a b
   unfold locI at hm
   rw [if_pos c] at hm
   exact hm
theorem Fx {id : Int} (h : ∀ r ∈ A, r.headD 0 ≠ id) : wiR A id = A := List.filter_eq_self.2 fun r hr => by simpa using h r hr
theorem RFW.wi_none (h : RFW now bu le S T w A B) {i : Nat} (hz : gC T i 4 = 0) : wiR A i = A /\ wiR B i = B := by
 obtain ⟨Q, ok, ⟨la, rfl, nd, h1, h2⟩, rfl⟩ := h
 have := ok.tm
 constructor
 ·refine Fx fun r hr => ?_
  obtain ⟨j, hj, rfl⟩ := List.mem_map.1 hr
  have := (h1 j hj).2
  show ((j : Nat) : Int) ≠ (i : Int)
  intro e
  have : j = i := by omega
  subst this; omega
 ·refine Fx fun r hr => ?_
  obtain ⟨j, hj, rfl⟩ := List.mem_map.1 hr
  have := (ok.out _ j hj).1
  show ((j : Nat) : Int) ≠ (i : Int)
  intro e
  have : j = i := by omega
  subst this; omega
theorem RFW.arm (h : RFW now bu le S T w A B) {i : Nat} {d : Int} (hi : i < T.length) (hd : now < d /\ d <= now + 2147483648) :
 RFW now bu (if 0 < gC T i 4 then le else le + 1) (armW now d (S, T) i).1 (armW now d (S, T) i).2 w (puR now (wiR A i) i d) (wiR B i) /\ (armW now d (S, T) i).2.length = T.length := by
 unfold armW clW
 by_cases hz : 0 < gC T i 4
 ·simp only [if_pos hz]
  obtain ⟨k1, k2, k3, _⟩ := h.drop hi hz
  obtain ⟨m1, m2⟩ := k1.put (d := d) (i := i) (by rw [k2]; exact hi) k3 hd
  rw [show le - 1 + 1 = le by omega] at m1
  exact ⟨m1, m2.trans k2⟩
 ·simp only [if_neg hz]
  have hz' : gC T i 4 = 0 := by
   obtain ⟨Q, ok, _⟩ := h
   have := (ok.dr i hi).1; omega
  obtain ⟨e1, e2⟩ := h.wi_none hz'
  rw [e1, e2]
  exact h.put hi hz' hd
theorem TF (T : RL) {j : Nat} {lv ix : Int} (h : (0 <= gC T j 0 /\ gC T j 0 <= 3) /\ 0 <= gC T j 1 /\ gC T j 1 < 512) (hl : 0 <= lv /\ lv <= 3) (hx : 0 <= ix /\ ix < 512) : isAt lv ix (rowT T j) = decide (kT T j = (lv * 512 + ix).toNat) := by
 show (decide (gC T j 0 = lv) && decide (gC T j 1 = ix)) = decide ((gC T j 0 * 512 + gC T j 1).toNat = _)
 by_cases a : gC T j 0 = lv
 ·by_cases b : gC T j 1 = ix
  ·rw [a, b]; simp
  ·rw [decide_eq_false b, Bool.and_false, eq_comm, decide_eq_false_iff_not]; omega
 ·rw [decide_eq_false a, Bool.false_and, eq_comm, decide_eq_false_iff_not]; omega
theorem RF.at {Q : Nat -> List Nat} (ok : WOK now bu le S T Q w) (hr : RF now T Q A B) {lv ix : Int} (hl : 0 <= lv /\ lv <= 3) (hx : 0 <= ix /\ ix < 512) : A.filter (isAt lv ix) = (Q (lv * 512 + ix).toNat).map (rowT T) := by
 obtain ⟨⟨la, rfl, nd, h1, h2⟩, rfl⟩ := hr
 rw [<- h2 _ (by omega), List.filter_map]
 congr 1
 refine List.filter_congr fun j hj => ?_
 obtain ⟨a, b⟩ := h1 j hj
 obtain ⟨f1, f2, f3, f4⟩ := ok.of a b
 exact TF T ⟨⟨f1, by omega⟩, f3, f4⟩ hl hx
theorem RF.first {Q : Nat -> List Nat} (ok : WOK now bu le S T Q w) (hr : RF now T Q A B) {lv ix : Int} (hl : 0 <= lv /\ lv <= 3) (hx : 0 <= ix /\ ix < 512) :
 (Q (lv * 512 + ix).toNat = [] /\ ixR (isAt lv ix) A 0 = -1) \/ ∃ i q, Q (lv * 512 + ix).toNat = i :: q /\ 0 <= ixR (isAt lv ix) A 0 /\ ixR (isAt lv ix) A 0 < (A.length : Int) /\ A.getD (ixR (isAt lv ix) A 0).toNat [] = rowT T i := by
 have hf := hr.at ok hl hx
 rcases CW (isAt lv ix) A with h | ⟨X, r, Y, rfl, h1, h2⟩
 ·left
  rw [List.filter_eq_nil_iff.2 (fun r hr => by rw [h r hr]; decide)] at hf
  exact ⟨List.map_eq_nil_iff.1 hf.symm, Ej h⟩
 ·right
  rw [List.filter_append, List.filter_cons_of_pos h2, List.filter_eq_nil_iff.2 (fun r hr => by rw [h1 r hr]; decide), List.nil_append] at hf
  cases hq : Q (lv * 512 + ix).toNat with
  | nil => rw [hq] at hf; cases hf
  | cons i q =>
    rw [hq, List.map_cons, List.cons.injEq] at hf
    refine ⟨i, q, rfl, ?_⟩
    rw [Dq h1 h2, hf.1]
    refine ⟨by omega, by simp; omega, ?_⟩
    rw [show ((0 : Int) + (X.length : Nat)).toNat = X.length by omega]
    simp [List.getD]
theorem RFW.join (h : RFW now bu le S T (bu * (255 - now % 256)) A B) (hM : now < 1099511627776) :
 RFW (now + 1) bu le (joinW ((now + 1) % 512).toNat (S, T)).1 (joinW ((now + 1) % 512).toNat (S, T)).2 (bu * (256 - (now + 1) % 256)) (A.filter fun r => !isAt 0 ((now + 1) % 512) r) (B ++ A.filter (isAt 0 ((now + 1) % 512))) /\
  (joinW ((now + 1) % 512).toNat (S, T)).2.length = T.length /\ ∀ y, rowT (joinW ((now + 1) % 512).toNat (S, T)).2 y = rowT T y := by
 obtain ⟨Q, ok, hr⟩ := h
 obtain ⟨k, hk⟩ : ∃ k, k = ((now + 1) % 512).toNat := ⟨_, rfl⟩
 obtain ⟨j1, j2, j3⟩ := ok.join hM hk
 have htm := ok.tm
 have ej : joinW k (S, T) = (if gC S k 2 = 0 then S else joinS S k, if gC S k 2 = 0 then T else joinT T (gC S k 0) (gC S 2048 1)) := by
  unfold joinW
  by_cases hc : gC S k 2 = 0 <;> simp [hc]
 rw [<- hk, ej]
 obtain ⟨T', eT⟩ : ∃ T', T' = if gC S k 2 = 0 then T else joinT T (gC S k 0) (gC S 2048 1) := ⟨_, rfl⟩
 simp only [<- eT] at j1 j2 j3 ⊢
 have hrow : ∀ y, rowT T' y = rowT T y := fun y => E2 (j3 y 0 (by decide) (by decide)) (j3 y 1 (by decide) (by decide)) (j3 y 4 (by decide) (by decide))
 have hkT : ∀ y, kT T' y = kT T y := fun y => J1 (j3 y 0 (by decide) (by decide)) (j3 y 1 (by decide) (by decide))
 have hmap : ∀ l : List Nat, l.map (rowT T) = l.map (rowT T') := fun l => List.map_congr_left fun y _ => (hrow y).symm
 refine ⟨⟨_, j1, ?_⟩, j2, hrow⟩
 have hfi := hr.at ok (lv := 0) (ix := (now + 1) % 512) (by decide) (by omega)
 rw [show (0 * 512 + (now + 1) % 512).toNat = k by omega] at hfi
 rw [hfi]
 obtain ⟨⟨la, rfl, nd, h1, h2⟩, rfl⟩ := hr
 refine ⟨⟨la.filter fun j => !decide (kT T j = k), ?_, nd.filter _, fun j hj => ?_, fun m hm => ?_⟩, ?_⟩
 ·rw [List.filter_map, hmap]
  congr 1
  refine List.filter_congr fun j hj => ?_
  obtain ⟨a, b⟩ := h1 j hj
  obtain ⟨f1, f2, f3, f4⟩ := ok.of a b
  show (!isAt 0 ((now + 1) % 512) (rowT T j)) = _
  rw [TF T ⟨⟨f1, by omega⟩, f3, f4⟩ (by decide) (by omega), show (0 * 512 + (now + 1) % 512).toNat = k by omega]
 ·obtain ⟨m1, m2⟩ := List.mem_filter.1 hj
  obtain ⟨a, b⟩ := h1 j m1
  rw [j2, j3 j 4 (by decide) (by decide)]
  refine ⟨a, ?_⟩
  have m2 : ¬ kT T j = k := by simpa using m2
  have : gC T j 4 ≠ now + 1 := fun e => m2 (by
   have := (ok.due j).2 ⟨a, e⟩
   rw [<- hk] at this
   have h8 : k < 2048 := by omega
   rw [<- h2 k h8] at this
   simpa using (List.mem_filter.1 this).2)
  omega
 ·rw [List.filter_filter]
  by_cases hmk : m = k
  ·subst hmk
   rw [AL]
   refine List.filter_eq_nil_iff.2 fun j _ => ?_
   rw [hkT]; by_cases e : kT T j = m <;> simp [e]
  ·rw [AU _ _ hmk, AU _ _ (by omega), <- h2 m hm]
   refine List.filter_congr fun j _ => ?_
   rw [hkT]
   by_cases e : kT T j = m
   ·simp [e, hmk]
   ·simp [e]
 ·rw [AU _ _ (by omega), AL, List.map_append, hmap, hmap]
def atR (now : Int) (A : RL) : Int :=
 if 0 <= ixR (isAt 1 ((blk 1 now + 1) % 512)) A 0 then ixR (isAt 1 ((blk 1 now + 1) % 512)) A 0 else
 if 0 <= ixR (isAt 2 ((blk 2 now + 1) % 512)) A 0 then ixR (isAt 2 ((blk 2 now + 1) % 512)) A 0 else
 if 0 <= ixR (isAt 3 ((blk 3 now + 1) % 512)) A 0 then ixR (isAt 3 ((blk 3 now + 1) % 512)) A 0 else -1
theorem RFW.wait (h : RFW now bu le S T w A B) : (wtF S now = 0 /\ atR now A = -1) \/
 ∃ i : Nat, wtF S now = (i : Int) + 1 /\ i < T.length /\ AO now T i = true /\ 0 <= atR now A /\ atR now A < (A.length : Int) /\ A.getD (atR now A).toNat [] = rowT T i := by
 obtain ⟨Q, ok, hr⟩ := h
 have key : ∀ k : Int, 1 <= k /\ k <= 3 -> (gC S (wK k now) 2 = 0 /\ ixR (isAt k ((blk k now + 1) % 512)) A 0 = -1) \/
  ∃ i : Nat, 0 < gC S (wK k now) 2 /\ gC S (wK k now) 0 = (i : Int) + 1 /\ i < T.length /\ AO now T i = true /\ 0 <= ixR (isAt k ((blk k now + 1) % 512)) A 0 /\ ixR (isAt k ((blk k now + 1) % 512)) A 0 < (A.length : Int) /\ A.getD (ixR (isAt k ((blk k now + 1) % 512)) A 0).toNat [] = rowT T i := fun k hk => by
  obtain ⟨e1, e2⟩ := ok.wt_cnt hk
  rcases hr.first ok (lv := k) (ix := (blk k now + 1) % 512) (by omega) (by omega) with ⟨q1, q2⟩ | ⟨i, q, q1, q2, q3, q4⟩
  ·refine Or.inl ⟨?_, q2⟩
   rw [e1]
   have : Q (wK k now) = [] := q1
   rw [this]; rfl
  ·have q1 : Q (wK k now) = i :: q := q1
   obtain ⟨g1, g2⟩ := ok.in_wait hk (i := i) (by rw [q1]; simp)
   refine Or.inr ⟨i, ?_, ?_, g1, g2, q2, q3, q4⟩
   ·rw [e1, q1]; simp
   ·rw [e2, q1]; rfl
 unfold wtF atR
 rcases key 1 (by decide) with ⟨a, b⟩ | ⟨i, a, b, c⟩
 ·simp only [a, b, show ¬ (0:Int) < 0 from by decide, show ¬ (0:Int) <= -1 from by decide, if_false]
  rcases key 2 (by decide) with ⟨a, b⟩ | ⟨i, a, b, c⟩
  ·simp only [a, b, show ¬ (0:Int) < 0 from by decide, show ¬ (0:Int) <= -1 from by decide, if_false]
   rcases key 3 (by decide) with ⟨a, b⟩ | ⟨i, a, b, c⟩
   ·simp only [a, b, show ¬ (0:Int) < 0 from by decide, show ¬ (0:Int) <= -1 from by decide, if_false]
    exact Or.inl ⟨trivial, trivial⟩
   ·simp only [if_pos a, if_pos c.2.2.1]
    exact Or.inr ⟨i, b, c⟩
  ·simp only [if_pos a, if_pos c.2.2.1]
   exact Or.inr ⟨i, b, c⟩
 ·simp only [if_pos a, if_pos c.2.2.1]
  exact Or.inr ⟨i, b, c⟩
theorem RFW.move (h : RFW now bu le S T w A B) {i : Nat} (hw : wtF S now = (i : Int) + 1) (hi : i < T.length) (hws : AO now T i = true) :
 RFW now bu le (mvW now (S, T)).1 (mvW now (S, T)).2 (w - 1) (puR now (wiR A i) i (gC T i 4)) B /\ (mvW now (S, T)).2.length = T.length /\ ∀ y, gC (mvW now (S, T)).2 y 4 = gC T y 4 := by
 obtain ⟨w1, w2, w3⟩ := CN.1 hws
 have hh := h
 obtain ⟨Q, ok, hr⟩ := hh
 have hdr := ok.dr i hi
 have htm := ok.tm
 obtain ⟨Q', m1, m2, m3, m4, m5, m6, m7⟩ := ok.move hw hi hws
 obtain ⟨k1, k2, k3, k4⟩ := h.drop hi (by omega)
 obtain ⟨p1, p2⟩ := k1.put (d := gC T i 4) (i := i) (by rw [k2]; exact hi) k3 ⟨w1, hdr.2⟩
 rw [show le - 1 + 1 = le by omega] at p1
 have e : mvW now (S, T) = ptW now (gC T i 4) (dpW now (S, T) i) i := by
  exact TB hw
 have eB : wiR B i = B := by
  refine Fx fun r hr' => ?_
  obtain ⟨⟨la, _, _, _⟩, hB⟩ := hr
  rw [hB] at hr'
  obtain ⟨j, hj, rfl⟩ := List.mem_map.1 hr'
  show ((j : Nat) : Int) ≠ (i : Int)
  intro e
  have : j = i := by omega
  subst this
  obtain ⟨a, b⟩ := ok.out _ j hj
  have := ok.loc_lt hi w1
  omega
 rw [eB] at p1
 obtain ⟨Q2, ok2, hr2⟩ := p1
 refine ⟨⟨Q2, ?_, by rw [e]; exact hr2⟩, m2, m3⟩
 rw [e]
 refine { ok2 with wt := ?_ }
 have := m1.wt
 rw [e] at this
 exact this
def mvA (now : Int) : Nat -> RL -> RL × Int
 | 0, A => (A, 0)
 | n + 1, A => if atR now A < 0 then (A, 0) else
     let r := A.getD (atR now A).toNat []
     ((mvA now n (puR now (wiR A (r.headD 0)) (r.headD 0) (r.getD 1 0))).1, (mvA now n (puR now (wiR A (r.headD 0)) (r.headD 0) (r.getD 1 0))).2 + 1)
theorem RFW.moves {now bu le : Int} {B : RL} : ∀ (n : Nat) {S T A : RL} {w : Int}, RFW now bu le S T w A B ->
 RFW now bu le (mvN now n (S, T)).1.1 (mvN now n (S, T)).1.2 (if (n : Int) <= w then w - n else 0) (mvA now n A).1 B /\ (mvA now n A).2 = (mvN now n (S, T)).2
 | 0, S, T, A, w, h => by
   obtain ⟨Q, ok, hr⟩ := h
   have h0 := ok.wt
   have e : (if ((0 : Nat) : Int) <= w then w - ((0 : Nat) : Int) else 0) = w := by rw [if_pos (by omega)]; omega
   rw [e]
   exact ⟨⟨Q, ok, hr⟩, rfl⟩
 | n + 1, S, T, A, w, h => by
   rcases h.wait with ⟨a, b⟩ | ⟨i, a, b, c, d1, d2, d3⟩
   ·have e1 : mvN now (n + 1) (S, T) = ((S, T), 0) := if_pos a
    have e2 : mvA now (n + 1) A = (A, 0) := if_pos (by rw [b]; decide)
    rw [e1, e2]
    obtain ⟨Q, ok, hr⟩ := h
    refine ⟨⟨Q, { ok with wt := ?_ }, hr⟩, rfl⟩
    rw [ok.wait_zero a]
    split <;> omega
   ·obtain ⟨m1, _⟩ := h.move a b c
    have e1 : mvN now (n + 1) (S, T) = ((mvN now n (mvW now (S, T))).1, (mvN now n (mvW now (S, T))).2 + 1) := if_neg (by show ¬ wtF S now = 0; omega)
    have e2 : mvA now (n + 1) A = ((mvA now n (puR now (wiR A i) i (gC T i 4))).1, (mvA now n (puR now (wiR A i) i (gC T i 4))).2 + 1) := by
     rw [mvA, if_neg (by omega)]
     simp only [d3]
     rfl
    obtain ⟨r1, r2⟩ := RFW.moves n m1
    rw [e1, e2]
    refine ⟨?_, congrArg (· + 1) r2⟩
    obtain ⟨Q, ok, hr⟩ := r1
    refine ⟨Q, { ok with wt := ?_ }, hr⟩
    have h1 := ok.wt
    obtain ⟨Q0, ok0, _⟩ := h
    have h2 := ok0.wt
    have h3 : 0 < cntW now T := GM b c
    replace h1 : cntW now (mvN now n (mvW now (S, T))).1.2 <= if (n : Int) <= w - 1 then w - 1 - n else 0 := h1
    show ((cntW now (mvN now n (mvW now (S, T))).1.2 : Nat) : Int) <= if ((n + 1 : Nat) : Int) <= w then w - ((n + 1 : Nat) : Int) else 0
    push_cast
    split at h1 <;> split <;> omega
theorem RFW.pop {r : List Int} (h : RFW now bu le S T w A (r :: B)) : ∃ i : Nat, r = rowT T i /\ gC S 2048 0 - 1 = (i : Int) /\ i < T.length /\ RFW now bu (le - 1) (dpW now (S, T) i).1 (dpW now (S, T) i).2 w A B := by
 have hh := h
 obtain ⟨Q, ok, hr⟩ := hh
 obtain ⟨b0, _, _⟩ := ok.lk.hd 2048 (by decide)
 obtain ⟨⟨la, hA, nd, h1, h2⟩, hB⟩ := hr
 cases hq : Q 2048 with
 | nil => rw [hq] at hB; cases hB
 | cons i q =>
   rw [hq, List.map_cons, List.cons.injEq] at hB
   obtain ⟨rfl, hB⟩ := hB
   have hm : i ∈ Q 2048 := by rw [hq]; simp
   obtain ⟨o1, o2⟩ := ok.out _ i hm
   have hi := ok.lk.qc _ i hm
   have hndq := ok.lk.nd 2048
   rw [hq, List.nodup_cons] at hndq
   refine ⟨i, rfl, by rw [b0, hq]; show (i : Int) + 1 - 1 = _; omega, hi, ?_⟩
   have hd := (h.drop hi o1).1
   have eA : wiR A i = A := by
    rw [hA, Jg]
    congr 1
    refine EH fun hm' => ?_
    have := (h1 i hm').2
    have := ok.loc_lt hi this
    omega
   have eB : wiR (rowT T i :: B) i = B := by
    rw [show rowT T i :: B = (i :: q).map (rowT T) by rw [List.map_cons, hB], Jg, List.filter_cons_of_neg (by simp), EH hndq.1, hB]
   rw [eA, eB] at hd
   exact hd
theorem RFW.lag (h : RFW now bu le S T w A B) : gC S 2048 2 = (B.length : Int) := by
 obtain ⟨Q, ok, hr⟩ := h
 rw [(ok.lk.hd 2048 (by decide)).2.2, hr.b, List.length_map]
end
section
variable {S now bu le mo T c : Int} {d : Nat -> Int} {B : List Nat}
theorem WV.riW (h : WV S now bu le mo T c d B) {i : Int} {r : List Int} : Ew.riW (S :: now :: bu :: le :: mo :: T :: i :: r) ↔ (0 <= i /\ i < c) := by
 have := h.cp
 show (0 <= i /\ i < ((dc T).length : Int)) ↔ _
 omega
theorem WV.dead (h : WV S now bu le mo T c d B) {i x y : Int} (hi : 0 <= i /\ i < c) (ho : Ah e29.fn [S, now, bu, le, mo, T, i] 0 [.i .i64, .b] [x, y]) : x = d i.toNat /\ y = b2i (decide (d i.toNat ≠ 0)) := by
 obtain ⟨o0, o1, _⟩ := ho
 have hr : Ew.riW [S, now, bu, le, mo, T, i] := h.riW.2 hi
 have e := h.dl i.toNat (by omega)
 have hdr := h.dr (i := i.toNat) (by omega)
 have htm := h.tm
 have f0 : e29.fn 0 [S, now, bu, le, mo, T, i] = d i.toNat := (if_pos hr).trans e
 have f1 : e29.fn 1 [S, now, bu, le, mo, T, i] = b2i (decide (Ew.riW [S, now, bu, le, mo, T, i]) && decide (gC (dc T) i.toNat 4 ≠ 0)) := rfl
 refine ⟨o0.trans ((congrArg IntKind.i64.wrap f0).trans (i64w (by omega) (by omega))), o1.trans ((congrArg K.b.norm f1).trans ?_)⟩
 rw [Cf, decide_eq_true hr, Bool.true_and, e]
theorem WV.nowV (h : WV S now bu le mo T c d B) {v : Int} (ho : v = IntKind.i64.wrap (e18.fn 0 [S, now, bu, le, mo, T])) : v = now := by
 have := h.tm
 exact ho.trans (i64w (by show _ <= now; omega) (by show now <= _; omega))
theorem WV.lagV (h : WV S now bu le mo T c d B) {v : Int} (ho : v = IntKind.i64.wrap (e16.fn 0 [S, now, bu, le, mo, T])) : v = (B.length : Int) := by
 have := h.lenB
 have := h.ct
 have e : e16.fn 0 [S, now, bu, le, mo, T] = (B.length : Int) := h.lag
 rw [e] at ho
 exact ho.trans (i64w (by omega) (by omega))
theorem WV.keep (h : WV S now bu le mo T c d B) {S' now' bu' le' mo' T' : Int} (h0 : S' = S) (h1 : now' = IntKind.i64.wrap now) (h2 : bu' = IntKind.i64.wrap bu) (h3 : le' = IntKind.i64.wrap le) (h4 : mo' = IntKind.i64.wrap mo) (h5 : T' = T) : S' = S /\ now' = now /\ bu' = bu /\ le' = le /\ mo' = mo /\ T' = T := by
 have := h.tm; have := h.bg; have := h.ler; have := h.mb
 exact ⟨h0, h1.trans (i64w (by omega) (by omega)), h2.trans (i64w (by omega) (by omega)), h3.trans (i64w (by omega) (by omega)), h4.trans (i64w (by omega) (by omega)), h5⟩
theorem WV.armB {S' now' bu' le' mo' T' e i dd : Int} (h : WV S now bu le mo T c d B) (hb : ¬ ((0 <= i /\ i < c) /\ now < dd /\ dd <= now + 2147483648))
 (ho : Ah e14.fn [S, now, bu, le, mo, T, i, dd] 0 [.x, .i .i64, .i .i64, .i .i64, .i .i64, .x, .i .i64] [S', now', bu', le', mo', T', e]) :
 (S' = S /\ now' = now /\ bu' = bu /\ le' = le /\ mo' = mo /\ T' = T) /\ e = 2 := by
 obtain ⟨o0, o1, o2, o3, o4, o5, o6, _⟩ := ho
 have hn : ¬ okA [S, now, bu, le, mo, T, i, dd] := fun hh => hb ⟨h.riW.1 hh.1, hh.2⟩
 exact ⟨h.keep (o0.trans (if_neg hn)) o1 o2 (o3.trans (congrArg _ (if_neg hn))) o4 (o5.trans (if_neg hn)), o6.trans ((congrArg IntKind.i64.wrap (if_neg hn)).trans rfl)⟩
theorem WV.canB {S' now' bu' le' mo' T' e i : Int} (h : WV S now bu le mo T c d B) (hb : ¬ (0 <= i /\ i < c))
 (ho : Ah e24.fn [S, now, bu, le, mo, T, i] 0 [.x, .i .i64, .i .i64, .i .i64, .i .i64, .x, .i .i64] [S', now', bu', le', mo', T', e]) :
 (S' = S /\ now' = now /\ bu' = bu /\ le' = le /\ mo' = mo /\ T' = T) /\ e = 2 := by
 obtain ⟨o0, o1, o2, o3, o4, o5, o6, _⟩ := ho
 have hr : ¬ Ew.riW [S, now, bu, le, mo, T, i] := fun hh => hb (h.riW.1 hh)
 have hn : ¬ (Ew.riW [S, now, bu, le, mo, T, i] /\ gC (dc T) i.toNat 4 ≠ 0) := fun hh => hr hh.1
 exact ⟨h.keep (o0.trans (if_neg hn)) o1 o2 (o3.trans (congrArg _ (if_neg hn))) o4 (o5.trans (if_neg hn)), o6.trans ((congrArg IntKind.i64.wrap (if_neg hr)).trans rfl)⟩
end
structure RV (S now bu le mo T c : Int) (A B : RL) : Prop where
 v : ∃ d Bk, WV S now bu le mo T c d Bk
 r : RFW now bu le (dc S) (dc T) (bu * (255 - now % 256)) A B
def fndR (A : RL) (i : Int) : Int := ixR (isId i) A 0
def arR (c now i d : Int) : Prop := (0 <= i /\ i < c) /\ now < d /\ d <= now + 2147483648
instance (c now i d : Int) : Decidable (arR c now i d) := by unfold arR; infer_instance
def armA (c now i d : Int) (A : RL) : RL := if arR c now i d then puR now (wiR A i) i d else A
def armBk (c now i d : Int) (B : RL) : RL := if arR c now i d then wiR B i else B
def Jh (c now i d : Int) : Int := if arR c now i d then 0 else 2
def caR (c i : Int) (A B : RL) : Prop := (0 <= i /\ i < c) /\ ¬ (fndR A i < 0 /\ fndR B i < 0)
instance (c i : Int) (A B : RL) : Decidable (caR c i A B) := by unfold caR; infer_instance
def canL (c i : Int) (A B X : RL) : RL := if caR c i A B then wiR X i else X
def Rk (c i : Int) (A B : RL) : Int := if 0 <= i /\ i < c then (if fndR A i < 0 /\ fndR B i < 0 then 6 else 0) else 2
def tkA (now bu : Int) (A : RL) : RL := if now = 1099511627776 then A else (mvA (now + 1) bu.toNat (A.filter fun r => !isAt 0 ((now + 1) % 512) r)).1
def tkB (now : Int) (A B : RL) : RL := if now = 1099511627776 then B else B ++ A.filter (isAt 0 ((now + 1) % 512))
def tkM (now bu : Int) (A : RL) : Int := if now = 1099511627776 then 0 else (mvA (now + 1) bu.toNat (A.filter fun r => !isAt 0 ((now + 1) % 512) r)).2
def idsL (B : RL) : RL := B.map fun r => [r.headD 0]
def dlR (A B : RL) (i : Int) : Int := if 0 <= fndR A i then (A.getD (fndR A i).toNat []).getD 1 0 else if 0 <= fndR B i then (B.getD (fndR B i).toNat []).getD 1 0 else 0
def isR (A B : RL) (i : Int) : Prop := 0 <= fndR A i \/ 0 <= fndR B i
instance (A B : RL) (i : Int) : Decidable (isR A B i) := by unfold isR; infer_instance
section
variable {S now bu le mo T c : Int} {A B : RL}
theorem RV.ws (h : RV S now bu le mo T c A B) : WS S now bu le mo T now bu le mo (dc S, dc T) := by
 obtain ⟨d, Bk, hv⟩ := h.v
 obtain ⟨Q, ok, _⟩ := hv.ok
 have := hv.mb
 exact ⟨rfl, rfl, rfl, rfl, rfl, rfl, ⟨Q, ok⟩, by omega⟩
theorem RV.tm (h : RV S now bu le mo T c A B) : 0 <= now /\ now <= 1099511627776 := by obtain ⟨d, Bk, hv⟩ := h.v; exact hv.tm
theorem RV.bg (h : RV S now bu le mo T c A B) : 1 <= bu /\ bu <= 4096 := by obtain ⟨d, Bk, hv⟩ := h.v; exact hv.bg
theorem RV.ct (h : RV S now bu le mo T c A B) : 0 < c /\ c <= 4096 := by obtain ⟨d, Bk, hv⟩ := h.v; exact hv.ct
theorem RV.cp (h : RV S now bu le mo T c A B) : ((dc T).length : Int) = c := by obtain ⟨d, Bk, hv⟩ := h.v; exact hv.cp
theorem RV.mb (h : RV S now bu le mo T c A B) : 0 <= mo /\ mo <= 1125899906842624 := by obtain ⟨d, Bk, hv⟩ := h.v; exact hv.mb
theorem RV.ler (h : RV S now bu le mo T c A B) : 0 <= le /\ le <= 4096 := by obtain ⟨d, Bk, hv⟩ := h.v; exact hv.ler
theorem RV.lenOK (h : RV S now bu le mo T c A B) (r : List Int) : Ew.lenOK (S :: now :: bu :: le :: mo :: T :: r) := by obtain ⟨d, Bk, hv⟩ := h.v; exact hv.lenOK r
theorem RV.preR (h : RV S now bu le mo T c A B) (i : Int) : Ew.preR [S, now, bu, le, mo, T, i] := by obtain ⟨d, Bk, hv⟩ := h.v; exact hv.preR i
theorem RV.pre16 (h : RV S now bu le mo T c A B) : e16.pre [S, now, bu, le, mo, T] := by obtain ⟨d, Bk, hv⟩ := h.v; exact hv.pre16
theorem RV.rows (h : RV S now bu le mo T c A B) : (∀ r ∈ A, ∃ i : Nat, r = rowT (dc T) i /\ (i : Int) < c /\ now < gC (dc T) i 4) /\ (∀ r ∈ B, ∃ i : Nat, r = rowT (dc T) i /\ (i : Int) < c /\ 0 < gC (dc T) i 4 /\ gC (dc T) i 4 <= now) := by
 have hc := h.cp
 obtain ⟨Q, ok, ⟨la, rfl, nd, h1, h2⟩, rfl⟩ := h.r
 constructor
 ·intro r hr
  obtain ⟨j, hj, rfl⟩ := List.mem_map.1 hr
  obtain ⟨a, b⟩ := h1 j hj
  exact ⟨j, rfl, by omega, b⟩
 ·intro r hr
  obtain ⟨j, hj, rfl⟩ := List.mem_map.1 hr
  have a := ok.lk.qc _ j hj
  obtain ⟨b, c⟩ := ok.out _ j hj
  refine ⟨j, rfl, by omega, b, ?_⟩
  by_cases hc : gC (dc T) j 4 <= now
  ·exact hc
  ·have := ok.loc_lt a (by omega); omega
theorem Om {l : List Nat} {n : Nat} {p : Nat -> Bool} (h1 : l.Nodup) (h2 : ∀ i, i ∈ l ↔ i < n /\ p i = true) : l.length = cnt n p := by
 unfold cnt
 rw [List.countP_eq_length_filter]
 refine List.Perm.length_eq ((List.perm_ext_iff_of_nodup h1 (List.nodup_range.filter _)).2 fun i => ?_)
 rw [h2, List.mem_filter, List.mem_range]
theorem RV.len (h : RV S now bu le mo T c A B) : le = (A.length : Int) + (B.length : Int) := by
 obtain ⟨Q, ok, ⟨la, rfl, nd, h1, h2⟩, rfl⟩ := h.r
 have hm : ∀ i, i ∈ la ↔ i < (dc T).length /\ now < gC (dc T) i 4 := fun i => by
  constructor
  ·exact h1 i
  ·rintro ⟨a, b⟩
   have hm := ok.inn i a (by have := ok.tm; omega)
   rw [ok.kq a b] at hm
   have h8 := ok.loc_lt a b
   rw [ok.kq a b] at h8
   rw [<- h2 _ h8] at hm
   exact (List.mem_filter.1 hm).1
 have hb : ∀ i, i ∈ Q 2048 ↔ i < (dc T).length /\ 0 < gC (dc T) i 4 /\ gC (dc T) i 4 <= now := fun i => by
  constructor
  ·intro hj
   have a := ok.lk.qc _ i hj
   obtain ⟨b, c⟩ := ok.out _ i hj
   refine ⟨a, b, ?_⟩
   by_cases hc : gC (dc T) i 4 <= now
   ·exact hc
   ·have := ok.loc_lt a (by omega); omega
  ·rintro ⟨a, b, c⟩
   have hm := ok.inn i a b
   unfold locI at hm
   rw [if_pos c] at hm
   exact hm
 have htm := ok.tm
 rw [ok.ln, List.length_map, List.length_map]
 unfold cntD
 rw [<- Om (l := la ++ Q 2048) (n := (dc T).length)]
 ·rw [List.length_append]; push_cast; rfl
 ·rw [List.nodup_append]
  refine ⟨nd, ok.lk.nd 2048, fun a ha b hb' e => ?_⟩
  subst e
  have := ((hm a).1 ha).2
  have := ((hb a).1 hb').2.2
  omega
 ·intro i
  rw [List.mem_append, hm, hb, decide_eq_true_eq]
  omega
theorem RV.lenA (h : RV S now bu le mo T c A B) : (A.length : Int) <= 4096 /\ (B.length : Int) <= 4096 := by
 have := h.len; have := h.ler; omega
theorem Oo {p : Nat -> Prop} (T : RL) {X : RL} (h : ∀ r ∈ X, ∃ i : Nat, r = rowT T i /\ p i) (i : Int) :
 (fndR X i = -1 /\ ∀ r ∈ X, r.headD 0 ≠ i) \/ (0 <= i /\ 0 <= fndR X i /\ fndR X i < (X.length : Int) /\ X.getD (fndR X i).toNat [] = rowT T i.toNat /\ rowT T i.toNat ∈ X /\ p i.toNat) := by
 rcases CW (isId i) X with hn | ⟨Y, r, Z, rfl, h1, h2⟩
 ·exact Or.inl ⟨Ej hn, fun r hr => by simpa [isId] using hn r hr⟩
 ·right
  obtain ⟨j, rfl, hp⟩ := h r (by simp)
  have e : ((j : Nat) : Int) = i := by
   have : decide ((rowT T j).headD 0 = i) = true := h2
   exact of_decide_eq_true this
  subst e
  have e1 : fndR (Y ++ rowT T j :: Z) (j : Int) = Y.length := by
   unfold fndR; rw [Dq h1 h2]; omega
  rw [e1]
  refine ⟨by omega, by omega, by simp; omega, ?_, by simp, by simpa using hp⟩
  simp [List.getD]
theorem RV.fA (h : RV S now bu le mo T c A B) (i : Int) : (fndR A i = -1 /\ (∀ r ∈ A, r.headD 0 ≠ i) /\ ¬ ((0 <= i /\ i < c) /\ now < gC (dc T) i.toNat 4)) \/
 (0 <= i /\ 0 <= fndR A i /\ fndR A i < (A.length : Int) /\ A.getD (fndR A i).toNat [] = rowT (dc T) i.toNat /\ i < c /\ now < gC (dc T) i.toNat 4) := by
 rcases Oo (dc T) h.rows.1 i with ⟨a, b⟩ | ⟨a, b, c', d, e, f⟩
 ·refine Or.inl ⟨a, b, fun ⟨⟨x, y⟩, z⟩ => ?_⟩
  have hc := h.cp
  obtain ⟨Q, ok, hr⟩ := h.r
  have := (hr.mem ok (i := i.toNat)).1.2 ⟨by omega, z⟩
  refine b _ this ?_
  show ((i.toNat : Nat) : Int) = i
  omega
 ·exact Or.inr ⟨a, b, c', d, by omega, f.2⟩
theorem RV.fB (h : RV S now bu le mo T c A B) (i : Int) : (fndR B i = -1 /\ (∀ r ∈ B, r.headD 0 ≠ i) /\ ¬ ((0 <= i /\ i < c) /\ 0 < gC (dc T) i.toNat 4 /\ gC (dc T) i.toNat 4 <= now)) \/
 (0 <= i /\ 0 <= fndR B i /\ fndR B i < (B.length : Int) /\ B.getD (fndR B i).toNat [] = rowT (dc T) i.toNat /\ i < c /\ 0 < gC (dc T) i.toNat 4 /\ gC (dc T) i.toNat 4 <= now) := by
 rcases Oo (dc T) h.rows.2 i with ⟨a, b⟩ | ⟨a, b, c', d, e, f⟩
 ·refine Or.inl ⟨a, b, fun ⟨⟨x, y⟩, z⟩ => ?_⟩
  have hc := h.cp
  obtain ⟨Q, ok, hr⟩ := h.r
  have := (hr.mem ok (i := i.toNat)).2.2 ⟨by omega, z⟩
  refine b _ this ?_
  show ((i.toNat : Nat) : Int) = i
  omega
 ·exact Or.inr ⟨a, b, c', d, by omega, f.2⟩
theorem RV.dr (h : RV S now bu le mo T c A B) {i : Nat} (hi : (i : Int) < c) : 0 <= gC (dc T) i 4 /\ gC (dc T) i 4 <= now + 2147483648 := by
 have hc := h.cp
 obtain ⟨Q, ok, _⟩ := h.r
 exact ok.dr i (by omega)
theorem RV.arm {S' now' bu' le' mo' T' e i d : Int} (h : RV S now bu le mo T c A B)
 (ho : Ah e14.fn [S, now, bu, le, mo, T, i, d] 0 [.x, .i .i64, .i .i64, .i .i64, .i .i64, .x, .i .i64] [S', now', bu', le', mo', T', e]) :
 RV S' now' bu' le' mo' T' c (armA c now i d A) (armBk c now i d B) /\ now' = now /\ bu' = bu /\ mo' = mo /\ e = Jh c now i d := by
 obtain ⟨d0, Bk, hv⟩ := h.v
 unfold armA armBk Jh
 by_cases hk : arR c now i d
 ·simp only [if_pos hk]
  obtain ⟨w1, w2, w3, w4, w5, w6, _⟩ := hv.arm hk.1 hk.2 ho
  have hc := h.cp
  have hi : i.toNat < (dc T).length := by have := hk.1; omega
  obtain ⟨a1, _⟩ := h.r.arm hi hk.2
  obtain ⟨o0, o1, o2, o3, o4, o5, o6, _⟩ := ho
  obtain ⟨s, _⟩ := h.ws.arm (by show 0 <= i /\ i < ((dc T).length : Int); rw [hc]; exact hk.1) hk.2 rfl o0 o1 o2 o3 o4 o5 o6
  obtain ⟨_, _, e3, _, hs, ht, _, _⟩ := s
  refine ⟨⟨⟨_, _, w1⟩, ?_⟩, w2, w3, w4, w5⟩
  rw [hs, ht, w2, w3, e3]
  have e : ((i.toNat : Nat) : Int) = i := by have := hk.1; omega
  rw [e] at a1
  exact a1
 ·simp only [if_neg hk]
  obtain ⟨s, hb⟩ := hv.armB hk ho
  obtain ⟨rfl, rfl, rfl, rfl, rfl, rfl⟩ := s
  exact ⟨h, rfl, rfl, rfl, hb⟩
theorem RV.can {S' now' bu' le' mo' T' e i : Int} (h : RV S now bu le mo T c A B)
 (ho : Ah e24.fn [S, now, bu, le, mo, T, i] 0 [.x, .i .i64, .i .i64, .i .i64, .i .i64, .x, .i .i64] [S', now', bu', le', mo', T', e]) :
 RV S' now' bu' le' mo' T' c (canL c i A B A) (canL c i A B B) /\ now' = now /\ bu' = bu /\ mo' = mo /\ e = Rk c i A B := by
 obtain ⟨d0, Bk, hv⟩ := h.v
 unfold canL Rk
 have hc := h.cp
 by_cases hk : 0 <= i /\ i < c
 ·rw [if_pos hk]
  obtain ⟨w1, w2, w3, w4, w5, w6, _⟩ := hv.can hk ho
  have hdl := hv.dl i.toNat (by omega)
  have hdr := h.dr (i := i.toNat) (by omega)
  have hi : i.toNat < (dc T).length := by omega
  have htm := h.tm
  have hr : riW [S, now, bu, le, mo, T, i] := hv.riW.2 hk
  obtain ⟨o0, o1, o2, o3, o4, o5, o6, _⟩ := ho
  have hfa := h.fA i
  have hfb := h.fB i
  by_cases hz : gC (dc T) i.toNat 4 = 0
  ·have hn : fndR A i < 0 /\ fndR B i < 0 := by omega
   have hn' : ¬ caR c i A B := fun hh => hh.2 hn
   simp only [if_neg hn', if_pos hn]
   have hz' : ¬ (riW [S, now, bu, le, mo, T, i] /\ gC (dc T) i.toNat 4 ≠ 0) := fun hh => hh.2 hz
   have f0 : S' = S := o0.trans (if_neg hz')
   have f5 : T' = T := o5.trans (if_neg hz')
   rw [if_pos (by omega)] at w5 w6
   rw [w2, w3, w4, w6, f0, f5]
   exact ⟨h, rfl, rfl, rfl, w5⟩
  ·have hn : ¬ (fndR A i < 0 /\ fndR B i < 0) := by omega
   have hn' : caR c i A B := ⟨hk, hn⟩
   simp only [if_pos hn', if_neg hn]
   have hz' : riW [S, now, bu, le, mo, T, i] /\ gC (dc T) i.toNat 4 ≠ 0 := ⟨hr, hz⟩
   have f0 : dc S' = (dpW now (dc S, dc T) i.toNat).1 := by rw [o0.trans (if_pos hz')]; exact Ab _
   have f5 : dc T' = (dpW now (dc S, dc T) i.toNat).2 := by rw [o5.trans (if_pos hz')]; exact Ab _
   rw [if_neg (by omega)] at w5 w6
   obtain ⟨a1, _⟩ := h.r.drop hi (by omega)
   have e : ((i.toNat : Nat) : Int) = i := by omega
   rw [e] at a1
   refine ⟨⟨⟨_, _, w1⟩, ?_⟩, w2, w3, w4, w5⟩
   rw [f0, f5, w2, w3, w6]
   exact a1
 ·rw [if_neg hk]
  have hn' : ¬ caR c i A B := fun hh => hk hh.1
  simp only [if_neg hn']
  obtain ⟨s, hb⟩ := hv.canB hk ho
  obtain ⟨rfl, rfl, rfl, rfl, rfl, rfl⟩ := s
  exact ⟨h, rfl, rfl, rfl, hb⟩
theorem RV.tick {S' now' bu' le' mo' T' g : Int} (h : RV S now bu le mo T c A B) (hm : mo + bu <= 1125899906842624)
 (ho : Ah e15.fn [S, now, bu, le, mo, T] 0 [.x, .i .i64, .i .i64, .i .i64, .i .i64, .x, .i .i64] [S', now', bu', le', mo', T', g]) :
 RV S' now' bu' le' mo' T' c (tkA now bu A) (tkB now A B) /\ now' = nowT now /\ bu' = bu /\ mo' = mo + tkM now bu A /\ g = tkM now bu A /\ (0 <= g /\ g <= bu) := by
 obtain ⟨d0, Bk, hv⟩ := h.v
 obtain ⟨D, w1, _, w2, w3, w4, w5, w6, w7, _⟩ := hv.tick hm ho
 have htm := h.tm
 have hbg := h.bg
 obtain ⟨o0, o1, o2, o3, o4, o5, o6, _⟩ := ho
 obtain ⟨s, hg⟩ := h.ws.tick (by omega) o0 o1 o2 o3 o4 o5 o6
 obtain ⟨_, _, _, _, hs, ht, _, _⟩ := s
 by_cases hM : now = 1099511627776
 ·have e1 : tickW now bu (dc S, dc T) = ((dc S, dc T), 0) := if_pos hM
  have eA : tkA now bu A = A := if_pos hM
  have eB : tkB now A B = B := if_pos hM
  have eM : tkM now bu A = 0 := if_pos hM
  have eT : nowT now = now := if_pos hM
  rw [e1] at hg hs ht
  refine ⟨⟨⟨_, _, w1⟩, ?_⟩, w2, w3, ?_, by rw [eM]; exact hg, w6, w7⟩
  ·rw [eA, eB, hs, ht, w2, w3, w4, eT]; exact h.r
  ·rw [eM, w5]; omega
 ·obtain ⟨j1, _, _⟩ := h.r.join (by omega)
  obtain ⟨m1, m2⟩ := RFW.moves bu.toNat j1
  have e1 : tickW now bu (dc S, dc T) = mvN (now + 1) bu.toNat (joinW ((now + 1) % 512).toNat (dc S, dc T)) := if_neg hM
  have eA : tkA now bu A = (mvA (now + 1) bu.toNat (A.filter fun r => !isAt 0 ((now + 1) % 512) r)).1 := if_neg hM
  have eB : tkB now A B = B ++ A.filter (isAt 0 ((now + 1) % 512)) := if_neg hM
  have eM : tkM now bu A = (mvA (now + 1) bu.toNat (A.filter fun r => !isAt 0 ((now + 1) % 512) r)).2 := if_neg hM
  have eT : nowT now = now + 1 := if_neg hM
  have hgm : g = tkM now bu A := by rw [eM, hg, e1]; exact m2.symm
  refine ⟨⟨⟨_, _, w1⟩, ?_⟩, w2, w3, by rw [<- hgm]; exact w5, hgm, w6, w7⟩
  rw [hs, ht, w2, w3, w4, eT, eA, eB, e1]
  have e2 : bu * (255 - (now + 1) % 256) = if ((bu.toNat : Nat) : Int) <= bu * (256 - (now + 1) % 256) then bu * (256 - (now + 1) % 256) - ((bu.toNat : Nat) : Int) else 0 := by
   have eb : ((bu.toNat : Nat) : Int) = bu := by omega
   have eq1 : bu * (256 - (now + 1) % 256) = bu * (255 - (now + 1) % 256) + bu := by
    rw [show 256 - (now + 1) % 256 = (255 - (now + 1) % 256) + 1 by omega, Int.mul_add, Int.mul_one]
   have h0 : 0 <= bu * (255 - (now + 1) % 256) := Int.mul_nonneg (by omega) (by omega)
   rw [eb, eq1, if_pos (by omega)]; omega
  rw [e2]
  exact m1
theorem RFW.take {now bu : Int} {A : RL} : ∀ (k : Nat) {S T : RL} {le w : Int} {B : RL}, RFW now bu le S T w A B ->
 RFW now bu (le - ((B.take k).length : Int)) (tkN now k (S, T)).1.1 (tkN now k (S, T)).1.2 w A (B.drop k) /\ (tkN now k (S, T)).2 = idsL (B.take k)
 | 0, S, T, le, w, B, h => by
   rw [List.take_zero, List.drop_zero]
   refine ⟨?_, rfl⟩
   show RFW now bu (le - 0) S T w A B
   rw [show le - 0 = le by omega]; exact h
 | k + 1, S, T, le, w, [], h => by
   have hl := h.lag
   have e : tkN now (k + 1) (S, T) = ((S, T), []) := if_neg (by show ¬ 0 < gC S 2048 2; rw [hl]; simp)
   rw [e]
   refine ⟨?_, rfl⟩
   show RFW now bu (le - 0) S T w A []
   rw [show le - 0 = le by omega]; exact h
 | k + 1, S, T, le, w, r :: B, h => by
   have hl := h.lag
   obtain ⟨i, rfl, p2, p3, p4⟩ := h.pop
   have e : tkN now (k + 1) (S, T) = ((tkN now k (dpW now (S, T) (gC S 2048 0 - 1).toNat)).1, [gC S 2048 0 - 1] :: (tkN now k (dpW now (S, T) (gC S 2048 0 - 1).toNat)).2) := if_pos (by show 0 < gC S 2048 2; rw [hl]; simp)
   have e2 : (gC S 2048 0 - 1).toNat = i := by omega
   obtain ⟨q1, q2⟩ := RFW.take k p4
   rw [e, e2, p2]
   refine ⟨?_, by show [(i : Int)] :: (tkN now k (dpW now (S, T) i)).2 = _; rw [show dpW now (S, T) i = ((dpW now (S, T) i).1, (dpW now (S, T) i).2) from rfl, q2]; rfl⟩
   show RFW now bu (le - (((rowT T i :: B).take (k + 1)).length : Int)) (tkN now k (dpW now (S, T) i)).1.1 (tkN now k (dpW now (S, T) i)).1.2 w A (B.drop k)
   rw [show dpW now (S, T) i = ((dpW now (S, T) i).1, (dpW now (S, T) i).2) from rfl, List.take_succ_cons, List.length_cons, show le - ((((B.take k).length + 1 : Nat)) : Int) = le - 1 - ((B.take k).length : Int) by push_cast; omega]
   exact q1
theorem RV.take {S' now' bu' le' mo' T' v e k : Int} (h : RV S now bu le mo T c A B) (hk : 0 <= k)
 (ho : Ah e17.fn [S, now, bu, le, mo, T, k] 0 [.x, .i .i64, .i .i64, .i .i64, .i .i64, .x, .x, .i .i64] [S', now', bu', le', mo', T', v, e]) :
 RV S' now' bu' le' mo' T' c A (B.drop k.toNat) /\ now' = now /\ bu' = bu /\ mo' = mo /\ e = 0 /\ dc v = idsL (B.take k.toNat) := by
 obtain ⟨d0, Bk, hv⟩ := h.v
 obtain ⟨w1, w2, w3, w4, w5, w6, w7, _⟩ := hv.take hk ho
 obtain ⟨o0, o1, o2, o3, o4, o5, o6, o7, _⟩ := ho
 obtain ⟨s, hg, _⟩ := h.ws.take hk o0 o1 o2 o3 o4 o5 o6 o7
 obtain ⟨_, _, e3, _, hs, ht, _, _⟩ := s
 obtain ⟨t1, t2⟩ := RFW.take k.toNat h.r
 refine ⟨⟨⟨_, _, w1⟩, ?_⟩, w2, w3, w4, w5, hg.trans t2⟩
 rw [hs, ht, w2, w3, e3, t2]
 unfold idsL
 rw [List.length_map]
 exact t1
theorem RV.dead {i x y : Int} (h : RV S now bu le mo T c A B) (ho : Ah e29.fn [S, now, bu, le, mo, T, i] 0 [.i .i64, .b] [x, y]) : x = dlR A B i /\ y = b2i (decide (isR A B i)) := by
 obtain ⟨o0, o1, _⟩ := ho
 have hfa := h.fA i
 have hfb := h.fB i
 have htm := h.tm
 have hc := h.cp
 obtain ⟨d, Bk, hv⟩ := h.v
 have f0 : e29.fn 0 [S, now, bu, le, mo, T, i] = if riW [S, now, bu, le, mo, T, i] then gC (dc T) i.toNat 4 else 0 := rfl
 have f1 : e29.fn 1 [S, now, bu, le, mo, T, i] = b2i (decide (riW [S, now, bu, le, mo, T, i]) && decide (gC (dc T) i.toNat 4 ≠ 0)) := rfl
 have key : (if riW [S, now, bu, le, mo, T, i] then gC (dc T) i.toNat 4 else 0) = dlR A B i /\ (decide (riW [S, now, bu, le, mo, T, i]) && decide (gC (dc T) i.toNat 4 ≠ 0)) = decide (isR A B i) /\ -9223372036854775808 <= dlR A B i /\ dlR A B i <= 9223372036854775807 := by
  unfold dlR isR
  by_cases hi : 0 <= i /\ i < c
  ·have hr : riW [S, now, bu, le, mo, T, i] := hv.riW.2 hi
   have hdr := h.dr (i := i.toNat) (by omega)
   rw [if_pos hr, decide_eq_true hr, Bool.true_and]
   rcases hfa with ⟨a1, a2, a3⟩ | ⟨a1, a2, a3, a4, a5, a6⟩
   ·rw [if_neg (by omega)]
    rcases hfb with ⟨b1, b2, b3⟩ | ⟨b1, b2, b3, b4, b5, b6, b7⟩
    ·have hz : gC (dc T) i.toNat 4 = 0 := by omega
     rw [if_neg (by omega), hz]
     refine ⟨rfl, ?_, by decide, by decide⟩
     rw [decide_eq_false (show ¬ (0 : Int) ≠ 0 from fun h => h rfl)]; exact (decide_eq_false (by omega)).symm
    ·rw [if_pos (by omega), b4]
     refine ⟨rfl, ?_, by show _ <= gC (dc T) i.toNat 4; omega, by show gC (dc T) i.toNat 4 <= _; omega⟩
     rw [decide_eq_true (show gC (dc T) i.toNat 4 ≠ 0 by omega)]; exact (decide_eq_true (by omega)).symm
   ·rw [if_pos (by omega), a4]
    refine ⟨rfl, ?_, by show _ <= gC (dc T) i.toNat 4; omega, by show gC (dc T) i.toNat 4 <= _; omega⟩
    rw [decide_eq_true (show gC (dc T) i.toNat 4 ≠ 0 by omega)]; exact (decide_eq_true (by omega)).symm
  ·have hr : ¬ riW [S, now, bu, le, mo, T, i] := fun hh => hi (hv.riW.1 hh)
   have a : fndR A i = -1 := by omega
   have b : fndR B i = -1 := by omega
   rw [if_neg hr, if_neg (by omega), if_neg (by omega), decide_eq_false hr, Bool.false_and]
   refine ⟨rfl, ?_, by decide, by decide⟩
   exact (decide_eq_false (by omega)).symm
 obtain ⟨k1, k2, k3, k4⟩ := key
 refine ⟨o0.trans ((congrArg IntKind.i64.wrap (f0.trans k1)).trans (i64w k3 k4)), o1.trans ((congrArg K.b.norm (f1.trans (congrArg b2i k2))).trans (Cf _))⟩
theorem RV.new {S' now' bu' le' mo' T' n c b : Int} (h : newW n c b)
 (ho : Ah e13.fn [n, c, b] 0 [.x, .i .i64, .i .i64, .i .i64, .i .i64, .x] [S', now', bu', le', mo', T']) :
 RV S' now' bu' le' mo' T' c [] [] /\ now' = n /\ bu' = b /\ mo' = 0 := by
 obtain ⟨q1, q2, q3, q4, q5, q6⟩ := WV.new h ho
 refine ⟨⟨⟨_, _, q1⟩, ?_⟩, q2, q3, q5⟩
 obtain ⟨o0, _, _, _, _, o5, _⟩ := ho
 have hs : dc S' = S0 := by rw [o0]; exact Ab _
 have hh := h
 obtain ⟨_, h2, h3, _⟩ := hh
 rw [hs, q6, q2, q3, q4]
 refine ⟨fun _ => [], WOK.new h (Int.mul_nonneg (by omega) (by omega)), ⟨⟨[], rfl, List.nodup_nil, (fun i hi => by cases hi), fun k _ => rfl⟩, rfl⟩⟩
end
def k4 : List K := [.i .i64, .i .i64, .i .i64, .i .i64]
def lsR : Sh := .lst 160 (Row.ofKs k4) false
def loR : Sh := .lst 160 (Row.ofKs k4) true
def rwS : Sh := .agg [i64, i64, i64, i64, lsR, lsR]
def rwO : Sh := .agg [i64, i64, i64, i64, loR, lsR]
def o90 : Sh := .obj 77 [i64, i64, i64, i64, lsR, lsR]
def capR : Int := 100000
def okR (c : Int) : Prop := rowsOK k4 (dc c) /\ ((dc c).length : Int) <= capR
def p104 : List Bool := [true,false,true,false]
def pre104 (xs : List Int) : Prop := 0 <= env xs 0 /\ env xs 0 <= 4 /\ 0 <= env xs 1
def PE (xs ys : List Int) : Prop := env ys 0 = blk (env xs 0) (env xs 1)
def b104 : Ent := ⟨104, 114, [i64, i64], [], [], i64, z0, pre104⟩
def preLb (xs : List Int) : Prop := 0 <= env xs 2 /\ env xs 2 <= env xs 0 /\ env xs 0 <= 4 /\ 0 <= env xs 1
def TG (xs ys : List Int) : Prop := env ys 0 = blk (env xs 0 - env xs 2) (env xs 1)
def muLb (xs : List Int) : Nat := (env xs 0 - env xs 2).toNat
def Rl : LEnt := ⟨⟨9104, 999999, [i64, i64, i64], [], [], .tup [i64], z0, preLb⟩, [0, 1, 5], [1], (List.range 8).map (· + 5), [.ex 0], 14, []⟩
def le104 : LEnt := Rl.fw (fnM Try.prog G0 114 p104 Rl TG)
def c104 : Ctx := ⟨[], [(114, p104, le104)]⟩
def e104 : Ent := b104.fw (fnG Try.prog G0 b104 PE)
def p103 : List Bool := [true,true,false,true,false]
def pre103 (xs : List Int) : Prop := okR (env xs 0)
def PF (xs ys : List Int) : Prop := dc (env ys 0) = wiR (dc (env xs 0)) (env xs 1)
def b103 : Ent := ⟨103, 113, [lsR, i64], [], [0], loR, z0, pre103⟩
def preLw (xs : List Int) : Prop := okR (env xs 0) /\ 0 <= env xs 3 /\ env xs 3 <= ((dc (env xs 0)).length : Int) /\ ((dc (env xs 2)).length : Int) <= env xs 3
def Lp (xs ys : List Int) : Prop := dc (env ys 0) = dc (env xs 2) ++ wiR ((dc (env xs 0)).drop (env xs 3).toNat) (env xs 1)
def muLw (xs : List Int) : Nat := (((dc (env xs 0)).length : Int) - env xs 3).toNat
def M7 : LEnt := ⟨⟨9103, 999999, [lsR, i64, loR, i64], [], [0], .tup [loR], z0, preLw⟩, [0, 1, 5, 6], [5], (List.range 22).map (· + 6), [.ex 0], 28, [0]⟩
def le103 : LEnt := M7.fw (fnM Try.prog G0 113 p103 M7 Lp)
def c103 : Ctx := ⟨[], [(113, p103, le103)]⟩
def e103 : Ent := b103.fw (fnG Try.prog G0 b103 PF)
def p100 : List Bool := [true,false,true,false]
def PG (xs ys : List Int) : Prop := env ys 0 = fndR (dc (env xs 0)) (env xs 1)
def b100 : Ent := ⟨100, 109, [lsR, i64], [], [0], i64, z0, pre103⟩
def preLf (xs : List Int) : Prop := okR (env xs 0) /\ 0 <= env xs 2 /\ env xs 2 <= ((dc (env xs 0)).length : Int)
def foundP (p : List Int -> Bool) (l : RL) (i : Int) (ys : List Int) : Prop :=
 (env ys 0 = 1 /\ ixR p (l.drop i.toNat) i = -1) \/ (env ys 0 = 0 /\ env ys 1 = ixR p (l.drop i.toNat) i)
def TH (xs ys : List Int) : Prop := foundP (isId (env xs 1)) (dc (env xs 0)) (env xs 2) ys
def muLf (xs : List Int) : Nat := (((dc (env xs 0)).length : Int) - env xs 2).toNat
def Rm : LEnt := ⟨⟨9100, 999999, [lsR, i64, .lt kJ 0, i64], [], [0], .tup [.sc .b, i64], z0, preLf⟩, [0, 1, 4, 5], [4], (List.range 15).map (· + 5), [.ex 0, .ret], 20, [0]⟩
def le100 : LEnt := Rm.fw (fnM Try.prog G0 109 p100 Rm TH)
def c100 : Ctx := ⟨[], [(109, p100, le100)]⟩
def e100 : Ent := b100.fw (fnG Try.prog G0 b100 PG)
def pre102 (xs : List Int) : Prop := okR (env xs 4)
def PH (xs ys : List Int) : Prop := env ys 0 = ixR (isAt (env xs 6) (env xs 7)) (dc (env xs 4)) 0
def b102 : Ent := ⟨102, 112, [rwS, i64, i64], [], [0, 1], i64, z0, pre102⟩
def preLs (xs : List Int) : Prop := okR (env xs 6) /\ 0 <= env xs 8 /\ env xs 8 <= ((dc (env xs 6)).length : Int)
def TI (xs ys : List Int) : Prop := foundP (isAt (env xs 0) (env xs 1)) (dc (env xs 6)) (env xs 8) ys
def muLs (xs : List Int) : Nat := (((dc (env xs 6)).length : Int) - env xs 8).toNat
def Rn : LEnt := ⟨⟨9102, 999999, [i64, i64, o90, .lt kJ 0, i64], [], [0, 1, 2], .tup [.sc .b, i64], z0, preLs⟩, [1, 2, 3, 6, 7], [6], (List.range 27).map (· + 7), [.ex 0, .ret], 34, []⟩
def le102 : LEnt := Rn.fw (fnM Try.prog G0 112 p100 Rn TI)
def c102 : Ctx := ⟨[], [(112, p100, le102)]⟩
def e102 : Ent := b102.fw (fnG Try.prog G0 b102 PH)
def pre101 (xs : List Int) : Prop := okR (env xs 4) /\ okR (env xs 5)
def PJ (xs ys : List Int) : Prop := (env ys 0 = env xs 0 /\ env ys 1 = env xs 1 /\ env ys 2 = env xs 2 /\ env ys 3 = env xs 3) /\ dc (env ys 4) = wiR (dc (env xs 4)) (env xs 6) /\ dc (env ys 5) = wiR (dc (env xs 5)) (env xs 6)
def b101 : Ent := ⟨101, 108, [rwS, i64], [], [0, 1], rwO, z0, pre101⟩
def c101 : Ctx := ⟨[e103], []⟩
def e101 : Ent := b101.fw (fnG Try.prog G0 b101 PJ)
theorem VH {k t : Int} (hk : 0 <= k) : blk k (t / 256) = blk (k + 1) t := by
 unfold blk
 rw [show (k + 1).toNat = k.toNat + 1 by omega, Int.pow_succ, Int.mul_comm, Int.ediv_ediv_of_nonneg (by decide)]
theorem ok104L : IPz 114 p104 le104 TG := by
 refine cIok.nm.loopK muLb false 9104 [] ⟨_, _, _, Try.func114, rfl, rfl⟩ ?_
 go_invoke
 refine enK rfl ?_
 intro φ l ρ lv hlv t ht i hi hp hφ hSS _
 obtain ⟨p1, p2, p3, p4⟩ := hp
 simp only [ewY, seval] at p1 p2 p3 p4
 have ht' := i64r ht
 by_cases hi : i < lv
 ·have e : t.tdiv 256 = t / 256 := Int.tdiv_eq_ediv_of_nonneg p4
  have w1 : IntKind.i64.wrap (t / 256) = t / 256 := i64w (by omega) (by omega)
  have yp : Rl.ent.pre [lv, t / 256, i + 1] := ⟨by show 0 <= i + 1; omega, by show i + 1 <= lv; omega, p3, by show 0 <= t / 256; omega⟩
  have ym : muLb [lv, t / 256, i + 1] < muLb [lv, t, i] := by show (lv - (i + 1)).toNat < (lv - i).toNat; omega
  have ih := hφ [lv, t / 256, i + 1] ⟨hlv, w1, i64w (by omega) (by omega), trivial⟩ yp ym
  refine ⟨?_, ?_⟩ <;> simp (disch := omega) only [ewZ, reduceCtorEq, seval, hSS, hi, e]
  ·exact ⟨yp, ym⟩
  ·replace ih : IntKind.i64.wrap (φ 0 [lv, t / 256, i + 1]) = blk (lv - (i + 1)) (t / 256) := ih
   show IntKind.i64.wrap (φ 0 [lv, t / 256, i + 1]) = blk (lv - i) t
   rw [ih, VH (by omega), show lv - (i + 1) + 1 = lv - i by omega]
 ·refine ⟨?_, ?_⟩ <;> simp (disch := omega) only [ewZ, reduceCtorEq, seval, hSS, hi]
  ·show t = blk (lv - i) t
   rw [show lv - i = 0 by omega, blk0]
theorem Wb : c104.OK Try.prog G0 := ⟨rfl, mF trivial, mF ⟨ok104L.1, trivial⟩⟩
theorem Ji : EPz e104 PE := by
 refine Wb.nm.entryK false [(100009104, le104.nm.ent)] ?_
 go_invoke
 refine enK rfl ?_
 intro l ρ lv hlv t ht hp v1 hn1 hSS hd1
 simp (disch := omega) only [and_true, Ent.nm_fn, hSS, ewZ, reduceCtorEq, seval] at hd1
 obtain ⟨p1, p2, p3⟩ := hp
 simp only [ewY, seval] at p1 p2 p3
 have yp : le104.ent.pre [lv, t, 0] := ⟨by show (0 : Int) <= 0; decide, p1, p2, p3⟩
 have q := (PostOK.usf (vs := [v1]) ok104L.2 ⟨hd1, trivial⟩) ⟨hlv, ht, rfl, trivial⟩ yp
 refine ⟨?_, ?_⟩ <;> simp (disch := omega) only [ewZ, reduceCtorEq, seval, hSS]
 ·exact yp
 ·replace q : v1 = blk (lv - 0) t := q
  rw [Int.sub_zero] at q
  exact q
theorem FU {L : Int} {i : Int} (h : okR L) (h0 : 0 <= i) (h1 : i < ((dc L).length : Int)) :
 ∃ a b c d, (dc L).getD i.toNat [] = [a, b, c, d] /\ (dc L).drop i.toNat = [a, b, c, d] :: (dc L).drop (i + 1).toNat /\ IntKind.i64.wrap a = a /\ IntKind.i64.wrap b = b /\ IntKind.i64.wrap c = c /\ IntKind.i64.wrap d = d := by
 obtain ⟨r, er, hr, _, hd⟩ := Gw h.1 h0 h1
 obtain ⟨a, r1, rfl, ha, hr⟩ := AM hr
 obtain ⟨b, r2, rfl, hb, hr⟩ := AM hr
 obtain ⟨c, r3, rfl, hc, hr⟩ := AM hr
 obtain ⟨d, r4, rfl, hd', hr⟩ := AM hr
 obtain rfl := Eh hr
 exact ⟨a, b, c, d, er, hd, ha, hb, hc, hd'⟩
theorem Oq (r : List Int) (l : RL) (id : Int) : wiR (r :: l) id = if r.headD 0 = id then wiR l id else r :: wiR l id := by
 unfold wiR
 by_cases h : r.headD 0 = id
 ·rw [if_pos h, List.filter_cons_of_neg (by simpa using h)]
 ·rw [if_neg h, List.filter_cons_of_pos (by simpa using h)]
theorem LX (l : RL) (id : Int) : (wiR l id).length <= l.length := List.length_filter_le _ _
theorem ok103L : IPz 113 p103 le103 Lp := by
 refine cIok.nm.loopK muLw false 9103 [] ⟨_, _, _, Try.func113, rfl, rfl⟩ ?_
 go_invoke
 refine enK rfl ?_
 intro φ l ρ L id hid o i hi hp hφ hSS _
 obtain ⟨p1, p2, p3, p4⟩ := hp
 replace p1 : okR L := p1
 simp only [ewY, seval] at p2 p3 p4
 have hcap := p1.2
 unfold capR at hcap
 by_cases hi : i < ((dc L).length : Int)
 ·obtain ⟨a, b, c, d, er, hdr, ha, hb, hc, hd⟩ := FU p1 p2 hi
  have hw := Oq [a, b, c, d] ((dc L).drop (i + 1).toNat) id
  rw [<- hdr] at hw
  have ym : ∀ o', muLw [L, id, o', i + 1] < muLw [L, id, o, i] := fun o' => by show (((dc L).length : Int) - (i + 1)).toNat < (((dc L).length : Int) - i).toNat; omega
  by_cases hn : a = id
  ·have yp : M7.ent.pre [L, id, o, i + 1] := ⟨p1, by show 0 <= i + 1; omega, by show i + 1 <= ((dc L).length : Int); omega, by show ((dc o).length : Int) <= i + 1; omega⟩
   have ih := hφ [L, id, o, i + 1] ⟨rfl, hid, rfl, i64w (by omega) (by omega), trivial⟩ yp (ym _)
   refine ⟨?_, ?_⟩ <;> simp (disch := omega) only [ewZ, reduceCtorEq, seval, hSS, hi, er, ha, hb, hc, hd, hn]
   ·exact ⟨p2, yp, ym _⟩
   ·replace ih : dc (φ 0 [L, id, o, i + 1]) = dc o ++ wiR ((dc L).drop (i + 1).toNat) id := ih
    show dc (φ 0 [L, id, o, i + 1]) = dc o ++ wiR ((dc L).drop i.toNat) id
    rw [ih, hw]; exact congrArg _ (if_pos hn).symm
  ·have hl : ((dc o ++ [[a, b, c, d]]).length : Int) = ((dc o).length : Int) + 1 := by simp
   have yp : M7.ent.pre [L, id, cd (dc o ++ [[a, b, c, d]]), i + 1] := ⟨p1, by show 0 <= i + 1; omega, by show i + 1 <= ((dc L).length : Int); omega, by show ((dc (cd (dc o ++ [[a, b, c, d]]))).length : Int) <= i + 1; rw [Ab]; omega⟩
   have ih := hφ [L, id, cd (dc o ++ [[a, b, c, d]]), i + 1] ⟨rfl, hid, rfl, i64w (by omega) (by omega), trivial⟩ yp (ym _)
   refine ⟨?_, ?_⟩ <;> simp (disch := omega) only [ewZ, reduceCtorEq, seval, hSS, hi, er, ha, hb, hc, hd, hn]
   ·exact ⟨⟨p2, p2, p2, by omega⟩, yp, ym _⟩
   ·replace ih : dc (φ 0 [L, id, cd (dc o ++ [[a, b, c, d]]), i + 1]) = dc (cd (dc o ++ [[a, b, c, d]])) ++ wiR ((dc L).drop (i + 1).toNat) id := ih
    show dc (φ 0 [L, id, cd (dc o ++ [[a, b, c, d]]), i + 1]) = dc o ++ wiR ((dc L).drop i.toNat) id
    rw [ih, hw, Ab, List.append_assoc]; exact congrArg _ (if_neg hn).symm
 ·refine ⟨?_, ?_⟩ <;> simp (disch := omega) only [ewZ, reduceCtorEq, seval, hSS, hi]
  ·show dc o = dc o ++ wiR ((dc L).drop i.toNat) id
   rw [List.drop_of_length_le (by omega)]; exact (List.append_nil _).symm
theorem Wc : c103.OK Try.prog G0 := ⟨rfl, mF trivial, mF ⟨ok103L.1, trivial⟩⟩
theorem Hx : EPz e103 PF := by
 refine Wc.nm.entryK false [(100009103, le103.nm.ent)] ?_
 go_invoke
 refine enK rfl ?_
 intro l ρ L id hid hp v1 hSS hd1
 simp (disch := omega) only [and_true, Ent.nm_fn, hSS, ewZ, reduceCtorEq, seval] at hd1
 replace hp : okR L := hp
 have d0 : dc (cd ([] : RL)) = [] := Ab _
 have yp : le103.ent.pre [L, id, cd [], 0] := ⟨hp, by show (0 : Int) <= 0; decide, by show (0 : Int) <= ((dc L).length : Int); omega, by show ((dc (cd [])).length : Int) <= 0; rw [d0]; decide⟩
 have q := (PostOK.usf (vs := [v1]) ok103L.2 ⟨hd1, trivial⟩) ⟨rfl, hid, rfl, rfl, trivial⟩ yp
 refine ⟨?_, ?_⟩ <;> simp (disch := omega) only [ewZ, reduceCtorEq, seval, hSS]
 ·exact yp
 ·replace q : dc v1 = dc (cd []) ++ wiR ((dc L).drop 0) id := q
  rw [d0, List.nil_append, List.drop_zero] at q
  exact q
theorem J2 {p : List Int -> Bool} {r : List Int} {l : RL} {n : Int} (h : p r = true) : ixR p (r :: l) n = n := if_pos h
theorem Ot {p : List Int -> Bool} {r : List Int} {l : RL} {n : Int} (h : p r = false) : ixR p (r :: l) n = ixR p l (n + 1) := if_neg (by rw [h]; decide)
theorem foundP.next {p : List Int -> Bool} {l : RL} {i w0 w1 : Int} {r : List Int} (hd : l.drop i.toNat = r :: l.drop (i + 1).toNat) (hr : p r = false) (h : foundP p l (i + 1) [w0, w1]) : foundP p l i [w0, w1] := by
 unfold foundP at h ⊢
 rw [hd, Ot hr]
 exact h
theorem ok100L : IPz 109 p100 le100 TH := by
 refine cIok.nm.loopK muLf false 9100 [] ⟨_, _, _, Try.func109, rfl, rfl⟩ ?_
 go_invoke
 refine enK rfl ?_
 intro φ l ρ L id hid i hi hp hφ hSS _
 obtain ⟨p1, p2, p3⟩ := hp
 replace p1 : okR L := p1
 simp only [ewY, seval] at p2 p3
 have hcap := p1.2
 unfold capR at hcap
 by_cases hi : i < ((dc L).length : Int)
 ·obtain ⟨a, b, c, d, er, hdr, ha, hb, hc, hd⟩ := FU p1 p2 hi
  by_cases hn : a = id
  ·refine ⟨?_, ?_⟩ <;> simp (disch := omega) only [ewZ, reduceCtorEq, seval, hSS, hi, er, ha, hb, hc, hd, hn]
   ·repeat' (first | (with_reducible apply Jj) | (with_reducible intro _))
    all_goals first | with_reducible assumption | trivial | omega | (split <;> omega)
   ·refine Or.inr ⟨rfl, ?_⟩
    show i = ixR (isId id) ((dc L).drop i.toNat) i
    rw [hdr, J2 (show isId id [a, b, c, d] = true from decide_eq_true hn)]
  ·have yp : Rm.ent.pre [L, id, i + 1] := ⟨p1, by show 0 <= i + 1; omega, by show i + 1 <= ((dc L).length : Int); omega⟩
   have ym : muLf [L, id, i + 1] < muLf [L, id, i] := by show (((dc L).length : Int) - (i + 1)).toNat < (((dc L).length : Int) - i).toNat; omega
   have ih := hφ [L, id, i + 1] ⟨rfl, hid, i64w (by omega) (by omega), trivial⟩ yp ym
   refine ⟨?_, ?_⟩
   ·simp (disch := omega) only [ewZ, reduceCtorEq, seval, hSS, hi, er, ha, hb, hc, hd, hn]
    repeat' (first | (with_reducible apply Jj) | (with_reducible intro _))
    all_goals first | with_reducible assumption | trivial | omega | (split <;> omega)
   ·obtain ⟨w0, hw0⟩ : ∃ w, K.b.norm (φ 0 [L, id, i + 1]) = w := ⟨_, rfl⟩
    obtain ⟨w1, hw1⟩ : ∃ w, IntKind.i64.wrap (φ 1 [L, id, i + 1]) = w := ⟨_, rfl⟩
    simp (disch := omega) only [ewZ, reduceCtorEq, seval, hSS, hi, er, ha, hb, hc, hd, hn, hw0, hw1]
    replace ih : foundP (isId id) (dc L) (i + 1) [w0, w1] := by rw [<- hw0, <- hw1]; exact ih
    replace ih := ih.next hdr (show isId id [a, b, c, d] = false from decide_eq_false hn)
    rcases ih with ⟨h1, h2⟩ | ⟨h1, h2⟩
    ·replace h1 : w0 = 1 := h1
     subst h1
     exact Or.inl ⟨rfl, h2⟩
    ·replace h1 : w0 = 0 := h1
     subst h1
     exact Or.inr ⟨rfl, h2⟩
 ·refine ⟨?_, ?_⟩ <;> simp (disch := omega) only [ewZ, reduceCtorEq, seval, hSS, hi]
  ·refine Or.inl ⟨rfl, ?_⟩
   show ixR (isId id) ((dc L).drop i.toNat) i = -1
   rw [List.drop_of_length_le (by omega)]; rfl
theorem Wd : c100.OK Try.prog G0 := ⟨rfl, mF trivial, mF ⟨ok100L.1, trivial⟩⟩
theorem Ro : EPz e100 PG := by
 refine Wd.nm.entryK false [(100009100, le100.nm.ent)] ?_
 go_invoke
 refine enK rfl ?_
 intro l ρ L id hid hp v1 hn1 v2 hn2 hSS hd
 simp (disch := omega) only [and_true, Ent.nm_fn, hSS, ewZ, reduceCtorEq, seval] at hd
 obtain ⟨hd1, hd2⟩ := hd
 replace hp : okR L := hp
 have yp : le100.ent.pre [L, id, 0] := ⟨hp, by show (0 : Int) <= 0; decide, by show (0 : Int) <= ((dc L).length : Int); omega⟩
 have q := (PostOK.usf (vs := [v1, v2]) ok100L.2 ⟨hd1, hd2, trivial⟩) ⟨rfl, hid, rfl, trivial⟩ yp
 refine ⟨?_, ?_⟩
 ·simp (disch := omega) only [ewZ, reduceCtorEq, seval, hSS]
  exact yp
 ·rcases q with ⟨q1, q2⟩ | ⟨q1, q2⟩
  ·replace q1 : v1 = 1 := q1
   simp (disch := omega) only [ewZ, reduceCtorEq, seval, hSS, q1]
   exact q2.symm
  ·replace q1 : v1 = 0 := q1
   simp (disch := omega) only [ewZ, reduceCtorEq, seval, hSS, q1]
   exact q2
theorem ok102L : IPz 112 p100 le102 TI := by
 refine cIok.nm.loopK muLs false 9102 [] ⟨_, _, _, Try.func112, rfl, rfl⟩ ?_
 go_invoke
 refine enK rfl ?_
 intro φ l ρ lv hlv ix hix nw hnw c0 hc0 bu hbu mo hmo L R i hi hp hφ hSS _
 obtain ⟨p1, p2, p3⟩ := hp
 replace p1 : okR L := p1
 simp only [ewY, seval] at p2 p3
 have hcap := p1.2
 unfold capR at hcap
 by_cases hi : i < ((dc L).length : Int)
 ·obtain ⟨a, b, c, d, er, hdr, ha, hb, hc, hd⟩ := FU p1 p2 hi
  by_cases hn : c = lv /\ d = ix
  ·obtain ⟨n1, n2⟩ := hn
   refine ⟨?_, ?_⟩ <;> simp (disch := omega) only [ewZ, reduceCtorEq, seval, hSS, hi, er, ha, hb, hc, hd, n1, n2]
   ·repeat' (first | (with_reducible apply Jj) | (with_reducible intro _))
    all_goals first | with_reducible assumption | trivial | omega | (split <;> omega)
   ·refine Or.inr ⟨rfl, ?_⟩
    show i = ixR (isAt lv ix) ((dc L).drop i.toNat) i
    rw [hdr, J2 (show isAt lv ix [a, b, c, d] = true by show (decide (c = lv) && decide (d = ix)) = true; rw [n1, n2]; simp)]
  ·have yp : Rn.ent.pre [lv, ix, nw, c0, bu, mo, L, R, i + 1] := ⟨p1, by show 0 <= i + 1; omega, by show i + 1 <= ((dc L).length : Int); omega⟩
   have ym : muLs [lv, ix, nw, c0, bu, mo, L, R, i + 1] < muLs [lv, ix, nw, c0, bu, mo, L, R, i] := by show (((dc L).length : Int) - (i + 1)).toNat < (((dc L).length : Int) - i).toNat; omega
   have ih := hφ [lv, ix, nw, c0, bu, mo, L, R, i + 1] ⟨hlv, hix, hnw, hc0, hbu, hmo, rfl, rfl, i64w (by omega) (by omega), trivial⟩ yp ym
   refine ⟨?_, ?_⟩
   ·by_cases n1 : c = lv
    ·have n2 : ¬ d = ix := fun h => hn ⟨n1, h⟩
     simp (disch := omega) only [ewZ, reduceCtorEq, seval, hSS, hi, er, ha, hb, hc, hd, n1, n2]
     repeat' (first | (with_reducible apply Jj) | (with_reducible intro _))
     all_goals first | with_reducible assumption | trivial | omega | (split <;> omega)
    ·simp (disch := omega) only [ewZ, reduceCtorEq, seval, hSS, hi, er, ha, hb, hc, hd, n1]
     repeat' (first | (with_reducible apply Jj) | (with_reducible intro _))
     all_goals first | with_reducible assumption | trivial | omega | (split <;> omega)
   ·obtain ⟨w0, hw0⟩ : ∃ w, K.b.norm (φ 0 [lv, ix, nw, c0, bu, mo, L, R, i + 1]) = w := ⟨_, rfl⟩
    obtain ⟨w1, hw1⟩ : ∃ w, IntKind.i64.wrap (φ 1 [lv, ix, nw, c0, bu, mo, L, R, i + 1]) = w := ⟨_, rfl⟩
    simp (disch := omega) only [ewZ, reduceCtorEq, seval, hSS, hi, er, ha, hb, hc, hd, hn, hw0, hw1]
    replace ih : foundP (isAt lv ix) (dc L) (i + 1) [w0, w1] := by rw [<- hw0, <- hw1]; exact ih
    replace ih := ih.next hdr (show isAt lv ix [a, b, c, d] = false by show (decide (c = lv) && decide (d = ix)) = false; rw [<- Bool.decide_and]; exact decide_eq_false hn)
    simp only [eq_true (show c = lv -> ¬d = ix from fun a b => hn ⟨a, b⟩), true_and]
    rcases ih with ⟨h1, h2⟩ | ⟨h1, h2⟩
    ·replace h1 : w0 = 1 := h1
     subst h1
     exact Or.inl ⟨rfl, h2⟩
    ·replace h1 : w0 = 0 := h1
     subst h1
     exact Or.inr ⟨rfl, h2⟩
 ·refine ⟨?_, ?_⟩ <;> simp (disch := omega) only [ewZ, reduceCtorEq, seval, hSS, hi]
  ·refine Or.inl ⟨rfl, ?_⟩
   show ixR (isAt lv ix) ((dc L).drop i.toNat) i = -1
   rw [List.drop_of_length_le (by omega)]; rfl
theorem We : c102.OK Try.prog G0 := ⟨rfl, mF trivial, mF ⟨ok102L.1, trivial⟩⟩
theorem Jk : EPz e102 PH := by
 refine We.nm.entryK false [(100009102, le102.nm.ent)] ?_
 go_invoke
 refine enK rfl ?_
 intro l ρ nw hnw c0 hc0 bu hbu mo hmo L R lv hlv ix hix hp v1 hn1 v2 hn2 hSS hd
 simp (disch := omega) only [and_true, Ent.nm_fn, hSS, ewZ, reduceCtorEq, seval] at hd
 obtain ⟨hd1, hd2⟩ := hd
 replace hp : okR L := hp
 have yp : le102.ent.pre [lv, ix, nw, c0, bu, mo, L, R, 0] := ⟨hp, by show (0 : Int) <= 0; decide, by show (0 : Int) <= ((dc L).length : Int); omega⟩
 have q := (PostOK.usf (vs := [v1, v2]) ok102L.2 ⟨hd1, hd2, trivial⟩) ⟨hlv, hix, hnw, hc0, hbu, hmo, rfl, rfl, rfl, trivial⟩ yp
 refine ⟨?_, ?_⟩
 ·simp (disch := omega) only [ewZ, reduceCtorEq, seval, hSS]
  exact yp
 ·rcases q with ⟨q1, q2⟩ | ⟨q1, q2⟩
  ·replace q1 : v1 = 1 := q1
   simp (disch := omega) only [ewZ, reduceCtorEq, seval, hSS, q1]
   exact q2.symm
  ·replace q1 : v1 = 0 := q1
   simp (disch := omega) only [ewZ, reduceCtorEq, seval, hSS, q1]
   exact q2
theorem Wf : c101.OK Try.prog G0 := Ctx.OK.nil.addF Hx.1 rfl
theorem M8 : EPz e101 PJ := by
 refine Wf.nm.entryK false [(100000103, e103.nm)] ?_
 go_invoke
 refine enK rfl ?_
 intro l ρ n hn c0 hc0 bu hbu mo hmo L R id hid hp v1 v2 hSS hd
 simp (disch := omega) only [and_true, Ent.nm_fn, hSS, ewZ, reduceCtorEq, seval] at hd
 obtain ⟨hd1, hd2⟩ := hd
 obtain ⟨p1, p2⟩ := hp
 have y1 : e103.pre [L, id] := p1
 have y2 : e103.pre [R, id] := p2
 have q1 := (PostOK.usf (vs := [v1]) Hx.2 ⟨hd1, trivial⟩) ⟨rfl, hid, trivial⟩ y1
 have q2 := (PostOK.usf (vs := [v2]) Hx.2 ⟨hd2, trivial⟩) ⟨rfl, hid, trivial⟩ y2
 refine ⟨?_, ?_⟩ <;> simp (disch := omega) only [ewZ, reduceCtorEq, seval, hSS]
 ·exact ⟨y1, y2⟩
 ·exact ⟨⟨rfl, rfl, rfl, rfl⟩, q1, q2⟩
def o9o : Sh := .obj 77 [i64, i64, i64, i64, loR, lsR]
def timD (now d : Int) : Prop := 0 <= now /\ now <= 1099511627776 /\ now < d /\ d <= now + 2147483648
def p105 : List Bool := [true,true,false,true,false]
def pre105 (xs : List Int) : Prop := okR (env xs 4) /\ ((dc (env xs 4)).length : Int) < capR /\ timD (env xs 0) (env xs 7)
def PK (xs ys : List Int) : Prop := (env ys 0 = env xs 0 /\ env ys 1 = env xs 1 /\ env ys 2 = env xs 2 /\ env ys 3 = env xs 3) /\ dc (env ys 4) = puR (env xs 0) (dc (env xs 4)) (env xs 6) (env xs 7) /\ env ys 5 = env xs 5
def b105 : Ent := ⟨105, 107, [rwO, i64, i64], [], [], rwO, z0, pre105⟩
def lvG (now d k l : Int) : Int := if k < 0 then l else if blk 1 d <= blk 1 now + 1 then 0 else if 1 <= k /\ blk 2 d <= blk 2 now + 1 then 1 else if 2 <= k /\ blk 3 d <= blk 3 now + 1 then 2 else l
def preLp (xs : List Int) : Prop := timD (env xs 1) (env xs 0) /\ -1 <= env xs 8 /\ env xs 8 <= 2
def TJ (xs ys : List Int) : Prop := env ys 0 = lvG (env xs 1) (env xs 0) (env xs 8) (env xs 7)
def muLp (xs : List Int) : Nat := (env xs 8 + 1).toNat
def Rp : LEnt := ⟨⟨9105, 999999, [i64, o9o, i64, i64], [], [0, 1, 2], .tup [i64], z0, preLp⟩, [2, 3, 7, 8], [7], (List.range 17).map (· + 8), [.ex 0], 39, []⟩
def c105a : Ctx := ⟨[e104], []⟩
def le105 : LEnt := Rp.fw (fnM Try.prog G0 107 p105 Rp TJ)
def c105 : Ctx := ⟨[e104], [(107, p105, le105)]⟩
def e105 : Ent := b105.fw (fnG Try.prog G0 b105 PK)
def pre99 (xs : List Int) : Prop := (okR (env xs 4) /\ okR (env xs 5)) /\ ((dc (env xs 4)).length : Int) < capR /\ 0 <= env xs 0 /\ env xs 0 <= 1099511627776
def TK (xs ys : List Int) : Prop := (env ys 0 = env xs 0 /\ env ys 1 = env xs 1 /\ env ys 2 = env xs 2 /\ env ys 3 = env xs 3) /\ dc (env ys 4) = armA (env xs 1) (env xs 0) (env xs 6) (env xs 7) (dc (env xs 4)) /\ dc (env ys 5) = armBk (env xs 1) (env xs 0) (env xs 6) (env xs 7) (dc (env xs 5)) /\ env ys 6 = Jh (env xs 1) (env xs 0) (env xs 6) (env xs 7)
def b99 : Ent := ⟨99, 93, [rwS, i64, i64], [], [0, 1], .tup [rwS, i64], z0, pre99⟩
def c99 : Ctx := ⟨[e101, e105], []⟩
def e99 : Ent := b99.fw (fnG Try.prog G0 b99 TK)
def TM (xs ys : List Int) : Prop := (env ys 0 = env xs 0 /\ env ys 1 = env xs 1 /\ env ys 2 = env xs 2 /\ env ys 3 = env xs 3) /\ dc (env ys 4) = canL (env xs 1) (env xs 6) (dc (env xs 4)) (dc (env xs 5)) (dc (env xs 4)) /\ dc (env ys 5) = canL (env xs 1) (env xs 6) (dc (env xs 4)) (dc (env xs 5)) (dc (env xs 5)) /\ env ys 6 = Rk (env xs 1) (env xs 6) (dc (env xs 4)) (dc (env xs 5))
def b74 : Ent := ⟨74, 95, [rwS, i64], [], [0, 1], .tup [rwS, i64], z0, pre101⟩
def c74 : Ctx := ⟨[e100, e101.nm], []⟩
def e74 : Ent := b74.fw (fnG Try.prog G0 b74 TM)
def PN (xs ys : List Int) : Prop := env ys 0 = dlR (dc (env xs 4)) (dc (env xs 5)) (env xs 6) /\ env ys 1 = b2i (decide (isR (dc (env xs 4)) (dc (env xs 5)) (env xs 6)))
def b106 : Ent := ⟨106, 96, [rwS, i64], [], [0, 1], .tup [i64, bS], z0, pre101⟩
def c100f : Ctx := ⟨[e100], []⟩
def e106 : Ent := b106.fw (fnG Try.prog G0 b106 PN)
theorem UC {now d k l : Int} (h : 0 <= k /\ k <= 2) : lvG now d (k - 1) (if blk (k + 1) d <= blk (k + 1) now + 1 then k else l) = lvG now d k l := by
 unfold lvG
 have : k = 0 \/ k = 1 \/ k = 2 := by omega
 rcases this with rfl | rfl | rfl
 ·simp
 ·by_cases h1 : blk 1 d <= blk 1 now + 1 <;> by_cases h2 : blk 2 d <= blk 2 now + 1 <;> simp [h1, h2]
 ·by_cases h1 : blk 1 d <= blk 1 now + 1 <;> by_cases h2 : blk 2 d <= blk 2 now + 1 <;> by_cases h3 : blk 3 d <= blk 3 now + 1 <;> simp [h1, h2, h3]
theorem lvG_F (now d : Int) : lvG now d 2 3 = lvF now d := by unfold lvG lvF; simp
theorem PO : c105a.OK Try.prog G0 := Ctx.OK.nil.addF Ji.1 rfl
theorem TN : IPz 107 p105 le105 TJ := by
 refine PO.nm.loopK muLp false 9105 [(100000104, e104.nm)] ⟨_, _, _, Try.func107, rfl, rfl⟩ ?_
 go_invoke
 refine enK rfl ?_
 intro φ l ρ dl hdl nw hnw c0 hc0 bu hbu mo hmo L R lv hlv k hk hp hφ v1 hn1 v2 hn2 hSS hd
 simp (disch := omega) only [and_true, Ent.nm_fn, hSS, ewZ, reduceCtorEq, seval] at hd
 obtain ⟨hd1, hd2⟩ := hd
 obtain ⟨⟨p1, p2, p3, p4⟩, p5, p6⟩ := hp
 simp only [ewY, seval] at p1 p2 p3 p4 p5 p6
 by_cases hkk : 0 <= k
 ·have y1 : e104.pre [k + 1, dl] := ⟨by show 0 <= k + 1; omega, by show k + 1 <= 4; omega, by show 0 <= dl; omega⟩
  have y2 : e104.pre [k + 1, nw] := ⟨by show 0 <= k + 1; omega, by show k + 1 <= 4; omega, p1⟩
  have wk : IntKind.i64.wrap (k + 1) = k + 1 := i64w (by omega) (by omega)
  simp (disch := omega) only [ewZ, reduceCtorEq, seval] at hd1 hd2
  have q1 : v1 = blk (k + 1) dl := (PostOK.usf (vs := [v1]) Ji.2 ⟨hd1, trivial⟩) ⟨wk, hdl, trivial⟩ y1
  have q2 : v2 = blk (k + 1) nw := (PostOK.usf (vs := [v2]) Ji.2 ⟨hd2, trivial⟩) ⟨wk, hnw, trivial⟩ y2
  have r2 := A2 (k + 1) p1
  obtain ⟨l', hl'⟩ : ∃ l', (if v1 <= v2 + 1 then k else lv) = l' := ⟨_, rfl⟩
  have wl' : IntKind.i64.wrap l' = l' := by rw [<- hl']; split; exact hk; exact hlv
  have yp : Rp.ent.pre [dl, nw, c0, bu, mo, L, R, l', k - 1] := ⟨⟨p1, p2, p3, p4⟩, by show -1 <= k - 1; omega, by show k - 1 <= 2; omega⟩
  have ym : muLp [dl, nw, c0, bu, mo, L, R, l', k - 1] < muLp [dl, nw, c0, bu, mo, L, R, lv, k] := by show (k - 1 + 1).toNat < (k + 1).toNat; omega
  have ih := hφ [dl, nw, c0, bu, mo, L, R, l', k - 1] ⟨hdl, hnw, hc0, hbu, hmo, rfl, rfl, wl', i64w (by omega) (by omega), trivial⟩ yp ym
  replace ih : IntKind.i64.wrap (φ 0 [dl, nw, c0, bu, mo, L, R, l', k - 1]) = lvG nw dl (k - 1) l' := ih
  rw [<- hl', q1, q2, UC ⟨hkk, p6⟩, <- q1, <- q2, hl'] at ih
  refine ⟨?_, ?_⟩ <;> simp (disch := omega) only [ewZ, reduceCtorEq, seval, hSS, hkk, hl']
  ·repeat' (first | (with_reducible apply Jj) | (with_reducible intro _))
   all_goals first | with_reducible assumption | trivial | omega | (split <;> omega)
  ·exact ih
 ·refine ⟨?_, ?_⟩ <;> simp (disch := omega) only [ewZ, reduceCtorEq, seval, hSS, hkk]
  ·show lv = lvG nw dl k lv
   unfold lvG; rw [if_pos (by omega)]
theorem Wg : c105.OK Try.prog G0 := Ctx.OK.addL (c := ⟨[e104], []⟩) PO TN.1 rfl
theorem M9 : EPz e105 PK := by
 refine Wg.nm.entryK false [(100000104, e104.nm), (100009105, le105.nm.ent)] ?_
 go_invoke
 refine enK rfl ?_
 intro l ρ nw hnw c0 hc0 bu hbu mo hmo L R id hid dl hdl hp v1 hn1 v2 hn2 hSS hd
 simp (disch := omega) only [and_true, Ent.nm_fn, hSS, ewZ, reduceCtorEq, seval] at hd
 obtain ⟨hd1, hd2⟩ := hd
 obtain ⟨p1, p2, p3⟩ := hp
 replace p1 : okR L := p1
 replace p3 : timD nw dl := p3
 simp only [ewY, seval] at p2
 have hcap := p1.2
 unfold capR at hcap p2
 have tm := p3
 unfold timD at tm
 have y1 : le105.ent.pre [dl, nw, c0, bu, mo, L, R, 3, 2] := ⟨p3, by show (-1 : Int) <= 2; decide, by show (2 : Int) <= 2; decide⟩
 have q1 : v1 = lvG nw dl 2 3 := (PostOK.usf (vs := [v1]) TN.2 ⟨hd1, trivial⟩) ⟨hdl, hnw, hc0, hbu, hmo, rfl, rfl, rfl, rfl, trivial⟩ y1
 rw [lvG_F] at q1
 have r1 : 0 <= v1 /\ v1 <= 3 := by rw [q1]; unfold lvF; split <;> (try split) <;> (try split) <;> omega
 have y2 : e104.pre [v1, dl] := ⟨r1.1, by show v1 <= 4; omega, by show 0 <= dl; omega⟩
 have q2 : v2 = blk v1 dl := (PostOK.usf (vs := [v2]) Ji.2 ⟨hd2, trivial⟩) ⟨hn1, hdl, trivial⟩ y2
 have r2 := A2 v1 (t := dl) (by omega)
 have e : v2.tmod 512 = v2 % 512 := Int.tmod_eq_emod_of_nonneg (by omega)
 have hl : ((dc L ++ [[id, dl, v1, v2 % 512]]).length : Int) = ((dc L).length : Int) + 1 := by simp
 refine ⟨?_, ?_⟩ <;> simp (disch := omega) only [ewZ, reduceCtorEq, seval, hSS, e]
 ·exact ⟨y1, y2, by omega⟩
 ·refine ⟨⟨rfl, rfl, rfl, rfl⟩, ?_, rfl⟩
  show dc (cd (dc L ++ [[id, dl, v1, v2 % 512]])) = puR nw (dc L) id dl
  rw [Ab, q2, q1]; rfl
theorem Ou {L c id : Int} (h : okR L) (e : dc c = wiR (dc L) id) : okR c /\ (dc c).length <= (dc L).length := by
 have := LX (dc L) id
 obtain ⟨h1, h2⟩ := h
 refine ⟨⟨?_, ?_⟩, by rw [e]; exact this⟩
 ·rw [e]; exact fun r hr => h1 r (List.mem_filter.1 hr).1
 ·rw [e]; omega
theorem c99ok : c99.OK Try.prog G0 := (Ctx.OK.nil.addF M9.1 rfl).addF M8.1 rfl
theorem ok99 : EPz e99 TK := by
 refine c99ok.nm.entryK false [(100000101, e101.nm), (100000105, e105.nm)] ?_
 go_invoke
 refine enK rfl ?_
 intro l ρ nw hnw c0 hc0 bu hbu mo hmo L R id hid dl hdl hp v1 hn1 v2 hn2 v3 hn3 v4 hn4 v5 v6 v7 hn7 v8 hn8 v9 hn9 v10 hn10 v11 v12 hSS hd
 simp (disch := omega) only [and_true, Ent.nm_fn, hSS, ewZ, reduceCtorEq, seval] at hd
 obtain ⟨hd1, hd2, hd3, hd4, hd5, hd6, hd7, hd8, hd9, hd10, hd11, hd12⟩ := hd
 obtain ⟨p1, p2, p3, p4⟩ := hp
 simp only [ewY, seval] at p2 p3 p4
 have rd := i64r hdl
 by_cases ha : arR c0 nw id dl
 ·have ha' := ha
  obtain ⟨⟨a1, a2⟩, a3, a4⟩ := ha'
  have y1 : e101.pre [nw, c0, bu, mo, L, R, id] := p1
  obtain ⟨⟨r1, r2, r3, r4⟩, r5, r6⟩ := (PostOK.usf (vs := [v1, v2, v3, v4, v5, v6]) M8.2 ⟨hd1, hd2, hd3, hd4, hd5, hd6, trivial⟩) ⟨hnw, hc0, hbu, hmo, rfl, rfl, hid, trivial⟩ y1
  replace r1 : v1 = nw := r1
  replace r2 : v2 = c0 := r2
  replace r3 : v3 = bu := r3
  replace r4 : v4 = mo := r4
  replace r5 : dc v5 = wiR (dc L) id := r5
  replace r6 : dc v6 = wiR (dc R) id := r6
  obtain ⟨s1, s2⟩ := Ou (show okR L from p1.1) r5
  have y2 : e105.pre [v1, v2, v3, v4, v5, v6, id, dl] := ⟨s1, by show ((dc v5).length : Int) < capR; omega, by show timD v1 dl; rw [r1]; exact ⟨p3, p4, a3, a4⟩⟩
  obtain ⟨⟨t1, t2, t3, t4⟩, t5, t6⟩ := (PostOK.usf (vs := [v7, v8, v9, v10, v11, v12]) M9.2 ⟨hd7, hd8, hd9, hd10, hd11, hd12, trivial⟩) ⟨hn1, hn2, hn3, hn4, rfl, rfl, hid, hdl, trivial⟩ y2
  replace t5 : dc v11 = puR v1 (dc v5) id dl := t5
  replace t6 : v12 = v6 := t6
  have hC : ¬ ((0 <= id /\ id < c0) /\ nw < dl -> 2147483648 < dl - nw) := fun h => by have := h ⟨⟨a1, a2⟩, a3⟩; omega
  refine ⟨?_, ?_⟩ <;> simp (disch := omega) only [ewZ, reduceCtorEq, seval, hSS]
  ·exact ⟨fun _ => ⟨y1, y2⟩, fun h => h⟩
  ·simp only [if_neg hC]
   refine ⟨⟨t1.trans r1, t2.trans r2, t3.trans r3, t4.trans r4⟩, ?_, ?_, ?_⟩
   ·show dc v11 = armA c0 nw id dl (dc L)
    rw [t5, r1, r5]; exact (if_pos ha).symm
   ·show dc v12 = armBk c0 nw id dl (dc R)
    rw [t6, r6]; exact (if_pos ha).symm
   ·show (0 : Int) = Jh c0 nw id dl
    exact (if_pos ha).symm
 ·have hC : (0 <= id /\ id < c0) /\ nw < dl -> 2147483648 < IntKind.i64.wrap (dl - nw) := fun ⟨⟨a, b⟩, c⟩ => by
   rw [i64w (by omega) (by omega)]
   by_cases hq : dl <= nw + 2147483648
   ·exact absurd ⟨⟨a, b⟩, c, hq⟩ ha
   ·omega
  refine ⟨?_, ?_⟩ <;> simp (disch := omega) only [ewZ, reduceCtorEq, seval, hSS]
  ·exact ⟨fun h => by have := hC h.1; omega, fun h => h⟩
  ·simp only [if_pos hC]
   exact ⟨⟨rfl, rfl, rfl, rfl⟩, (if_neg ha).symm, (if_neg ha).symm, (if_neg ha).symm⟩
theorem Jl (A : RL) (i : Int) : fndR A i = -1 \/ (0 <= fndR A i /\ fndR A i < (A.length : Int)) := by
 rcases CW (isId i) A with h | ⟨X, r, Y, rfl, h1, h2⟩
 ·exact Or.inl (Ej h)
 ·refine Or.inr ?_
  unfold fndR
  rw [Dq h1 h2]
  simp; omega
theorem Lq {L id : Int} (hid : IntKind.i64.wrap id = id) (h : okR L) : IntKind.i64.wrap (e100.fn 0 [L, id]) = fndR (dc L) id := Ro.2 [L, id] ⟨rfl, hid, trivial⟩ h
theorem lenW {L : Int} (h : okR L) : IntKind.i64.wrap (((dc L).length : Nat) : Int) = ((dc L).length : Int) := by
 have := h.2
 unfold capR at this
 exact i64w (by omega) (by omega)
theorem UU {L i : Int} (h : okR L) (h0 : 0 <= i) (h1 : i < ((dc L).length : Int)) {j : Nat} (hj : j < 4) : IntKind.i64.wrap (((dc L).getD i.toNat []).getD j 0) = ((dc L).getD i.toNat []).getD j 0 := by
 obtain ⟨a, b, c, d, er, _, ha, hb, hc, hd⟩ := FU h h0 h1
 rw [er]
 have : j = 0 \/ j = 1 \/ j = 2 \/ j = 3 := by omega
 rcases this with rfl | rfl | rfl | rfl
 ·exact ha
 ·exact hb
 ·exact hc
 ·exact hd
theorem VI : c100f.OK Try.prog G0 := Ctx.OK.nil.addF Ro.1 rfl
theorem c74ok : c74.OK Try.prog G0 := (Ctx.OK.nil.addF M8.1.nm rfl).addF Ro.1 rfl
theorem ok74 : EPz e74 TM := by
 refine c74ok.entryK false [(100, e100), (100000101, e101.nm)] ?_
 go_invoke
 refine enK rfl ?_
 intro l ρ nw hnw c0 hc0 bu hbu mo hmo L R id hid hp v1 hn1 v2 hn2 v3 hn3 v4 hn4 v5 v6 hSS hd
 simp (disch := omega) only [and_true, Ent.nm_fn, hSS, ewZ, reduceCtorEq, seval] at hd
 obtain ⟨hd1, hd2, hd3, hd4, hd5, hd6⟩ := hd
 obtain ⟨p1, p2⟩ := hp
 replace p1 : okR L := p1
 replace p2 : okR R := p2
 have f1 := Lq hid p1
 have f2 := Lq hid p2
 have y1 : e100.pre [L, id] := p1
 have y2 : e100.pre [R, id] := p2
 have y3 : e101.pre [nw, c0, bu, mo, L, R, id] := ⟨p1, p2⟩
 obtain ⟨⟨r1, r2, r3, r4⟩, r5, r6⟩ := (PostOK.usf (vs := [v1, v2, v3, v4, v5, v6]) M8.2 ⟨hd1, hd2, hd3, hd4, hd5, hd6, trivial⟩) ⟨hnw, hc0, hbu, hmo, rfl, rfl, hid, trivial⟩ y3
 refine ⟨?_, ?_⟩ <;> simp (disch := omega) only [ewZ, reduceCtorEq, seval, hSS, f1, f2]
 ·exact ⟨fun _ => ⟨⟨y1, fun _ => y2⟩, fun _ => y3⟩, fun a b => ⟨a, b⟩⟩
 ·by_cases hk : 0 <= id /\ id < c0
  ·have hk' : ¬ (0 <= id -> c0 <= id) := by omega
   by_cases hn : fndR (dc L) id < 0 /\ fndR (dc R) id < 0
   ·simp only [if_neg hk', if_pos hn]
    have hc : ¬ caR c0 id (dc L) (dc R) := fun h => h.2 hn
    exact ⟨⟨rfl, rfl, rfl, rfl⟩, (if_neg hc).symm, (if_neg hc).symm, ((if_pos hk).trans (if_pos hn)).symm⟩
   ·simp only [if_neg hk', if_neg hn]
    have hc : caR c0 id (dc L) (dc R) := ⟨hk, hn⟩
    exact ⟨⟨r1, r2, r3, r4⟩, r5.trans (if_pos hc).symm, r6.trans (if_pos hc).symm, ((if_pos hk).trans (if_neg hn)).symm⟩
  ·have hk' : 0 <= id -> c0 <= id := by omega
   simp only [if_pos hk']
   have hc : ¬ caR c0 id (dc L) (dc R) := fun h => hk h.1
   exact ⟨⟨rfl, rfl, rfl, rfl⟩, (if_neg hc).symm, (if_neg hc).symm, (if_neg hk).symm⟩
theorem UW : EPz e106 PN := by
 refine VI.entryK false [(100, e100)] ?_
 go_invoke
 refine enK rfl ?_
 intro l ρ nw hnw c0 hc0 bu hbu mo hmo L R id hid hp hSS _
 obtain ⟨p1, p2⟩ := hp
 replace p1 : okR L := p1
 replace p2 : okR R := p2
 have f1 := Lq hid p1
 have f2 := Lq hid p2
 have y1 : e100.pre [L, id] := p1
 have y2 : e100.pre [R, id] := p2
 refine ⟨?_, ?_⟩ <;> simp (disch := omega) only [ewZ, reduceCtorEq, seval, hSS, f1, f2]
 ·rw [lenW p1, lenW p2]
  have g1 := Jl (dc L) id
  have g2 := Jl (dc R) id
  exact ⟨⟨y1, fun h => ⟨h, by omega⟩⟩, fun _ => ⟨y2, fun h => ⟨h, by omega⟩⟩⟩
 ·have g1 := Jl (dc L) id
  have g2 := Jl (dc R) id
  refine ⟨?_, ?_⟩
  ·show (if 0 <= fndR (dc L) id then _ else _) = dlR (dc L) (dc R) id
   unfold dlR
   split
   ·rename_i h; exact UU p1 h (by omega) (by decide)
   ·split
    ·rename_i h; exact UU p2 h (by omega) (by decide)
    ·rfl
  ·show b2i (decide (0 <= fndR (dc L) id) || decide (0 <= fndR (dc R) id)) = b2i (decide (isR (dc L) (dc R) id))
   congr 1
   rw [Bool.eq_iff_iff, Bool.or_eq_true, decide_eq_true_eq, decide_eq_true_eq, decide_eq_true_eq]
   exact Iff.rfl
def ob90 : Ob := { j := 0, ty := 77, cs := [i64, i64, i64, i64, lsR, lsR] }
def Rq (xs ys : List Int) : Prop := env ys 0 = env xs 0 /\ env ys 1 = env xs 1 /\ env ys 2 = env xs 2 /\ env ys 3 = env xs 3
def disR (A : RL) : Prop := A.Pairwise fun a b => a.headD 0 ≠ b.headD 0
def pTa : List Bool := [true,true,true,false,true,false]
def preTa (xs : List Int) : Prop := okR (env xs 4) /\ okR (env xs 5) /\ ((dc (env xs 4)).length : Int) + ((dc (env xs 5)).length : Int) <= capR /\ disR (dc (env xs 4)) /\ 0 <= env xs 0 /\ env xs 6 = ixR (isAt 0 (env xs 0 % 512)) (dc (env xs 4)) 0
def TP (xs ys : List Int) : Prop := Rq xs ys /\ dc (env ys 4) = (dc (env xs 4)).filter (fun r => !isAt 0 (env xs 0 % 512) r) /\ dc (env ys 5) = dc (env xs 5) ++ (dc (env xs 4)).filter (isAt 0 (env xs 0 % 512))
def muTa (xs : List Int) : Nat := (dc (env xs 4)).length
def lbTa : LEnt := ⟨⟨9075, 999999, [o90, i64], [ob90], [], .tup [], z0, preTa⟩, [1, 4], [], [4, 5] ++ (List.range 26).map (· + 24), [.ex 0], 98, []⟩
def c75a : Ctx := ⟨[e102, e103], []⟩
def leTa : LEnt := lbTa.fw (fnM Try.prog G0 105 pTa lbTa TP)
def pTc : List Bool := [true,true,true,true,true,false,false,false,true,false,true,false,true,false]
def ixW (n : Int) (A : RL) (lv : Int) : Int := ixR (isAt lv ((blk lv n + 1) % 512)) A 0
def atG (n : Int) (A : RL) (lv a : Int) : Int := if lv < 1 then a else if 0 <= ixW n A 1 then ixW n A 1 else if 2 <= lv /\ 0 <= ixW n A 2 then ixW n A 2 else if 3 <= lv /\ 0 <= ixW n A 3 then ixW n A 3 else a
def preTc (xs : List Int) : Prop := okR (env xs 4) /\ 0 <= env xs 0 /\ env xs 0 <= 1099511627776 /\ 0 <= env xs 7 /\ env xs 7 <= 3
def TQ (xs ys : List Int) : Prop := env ys 0 = atG (env xs 0) (dc (env xs 4)) (env xs 7) (env xs 6)
def muTc (xs : List Int) : Nat := (env xs 7).toNat
def lbTc : LEnt := ⟨⟨9275, 999999, [o90, i64, i64], [], [0, 1, 2], .tup [i64], z0, preTc⟩, [1, 7, 8], [7], [8, 9] ++ (List.range 16).map (· + 54), [.ex 4], 98, []⟩
def c75c : Ctx := ⟨[e102, e104], []⟩
def leTc : LEnt := lbTc.fw (fnM Try.prog G0 105 pTc lbTc TQ)
def pTb : List Bool := [true,true,true,true,true,false,false]
def preTb (xs : List Int) : Prop := (∃ S T le w, RFW (env xs 0) (env xs 2) le S T w (dc (env xs 4)) (dc (env xs 5))) /\ okR (env xs 4) /\ (0 <= env xs 6 /\ env xs 6 <= env xs 2 /\ env xs 2 <= 4096) /\ 0 <= env xs 0 /\ env xs 0 <= 1099511627776
def TR (xs ys : List Int) : Prop := Rq xs ys /\ dc (env ys 4) = (mvA (env xs 0) (env xs 2 - env xs 6).toNat (dc (env xs 4))).1 /\ dc (env ys 5) = dc (env xs 5) /\ env ys 6 = env xs 6 + (mvA (env xs 0) (env xs 2 - env xs 6).toNat (dc (env xs 4))).2
def muTb (xs : List Int) : Nat := (env xs 2 - env xs 6).toNat
def lbTb : LEnt := ⟨⟨9175, 999999, [o90, i64], [ob90], [], .tup [i64], z0, preTb⟩, [1, 6], [6], [7, 8, 9, 10] ++ (List.range 41).map (· + 50), [.ex 2], 98, []⟩
def c75b : Ctx := ⟨[e103, e105], [(105, pTc, leTc)]⟩
def leTb : LEnt := lbTb.fw (fnM Try.prog G0 105 pTb lbTb TR)
def pre75 (xs : List Int) : Prop := (∃ S le T, RV S (env xs 0) (env xs 2) le (env xs 3) T (env xs 1) (dc (env xs 4)) (dc (env xs 5))) /\ okR (env xs 4) /\ okR (env xs 5) /\ env xs 3 + env xs 2 <= 1125899906842624
def TS (xs ys : List Int) : Prop := (env ys 0 = nowT (env xs 0) /\ env ys 1 = env xs 1 /\ env ys 2 = env xs 2 /\ env ys 3 = env xs 3 + tkM (env xs 0) (env xs 2) (dc (env xs 4))) /\ dc (env ys 4) = tkA (env xs 0) (env xs 2) (dc (env xs 4)) /\ dc (env ys 5) = tkB (env xs 0) (dc (env xs 4)) (dc (env xs 5)) /\ env ys 6 = tkM (env xs 0) (env xs 2) (dc (env xs 4))
def b75 : Ent := ⟨75, 105, [rwS], [], [0, 1], .tup [rwS, i64], z0, pre75⟩
def c75 : Ctx := ⟨[e102], [(105, pTa, leTa), (105, pTb, leTb)]⟩
def e75 : Ent := b75.fw (fnG Try.prog G0 b75 TS)
def p76 : List Bool := [true,true,true,false,false]
def pre76 (xs : List Int) : Prop := okR (env xs 5)
def preTe (xs : List Int) : Prop := okR (env xs 6) /\ 0 <= env xs 0 /\ ((dc (env xs 7)).length : Int) + ((dc (env xs 6)).length : Int) <= capR /\ ((dc (env xs 7)).length : Int) <= env xs 0
def Jm (xs : List Int) : Nat := (env xs 0 - ((dc (env xs 7)).length : Int)).toNat
def TT (xs ys : List Int) : Prop := (env ys 0 = env xs 1 /\ env ys 1 = env xs 2 /\ env ys 2 = env xs 3 /\ env ys 3 = env xs 4) /\ env ys 4 = env xs 5 /\ dc (env ys 5) = (dc (env xs 6)).drop (Jm xs) /\ dc (env ys 6) = dc (env xs 7) ++ idsL ((dc (env xs 6)).take (Jm xs))
def muTe (xs : List Int) : Nat := (dc (env xs 6)).length
def lb76 : LEnt := ⟨⟨9076, 999999, [i64, o90, lio], [ob90], [], .tup [lio], z0, preTe⟩, [1, 2, 7], [7], (List.range 22).map (· + 11), [.ex 0], 35, []⟩
def le76 : LEnt := lb76.fw (fnM Try.prog G0 106 p76 lb76 TT)
def TU (xs ys : List Int) : Prop := Rq xs ys /\ env ys 4 = env xs 4 /\ dc (env ys 5) = (dc (env xs 5)).drop (env xs 6).toNat /\ dc (env ys 6) = idsL ((dc (env xs 5)).take (env xs 6).toNat) /\ env ys 7 = if env xs 6 < 0 then 2 else 0
def b76 : Ent := ⟨76, 106, [rwS, i64], [], [0, 1], .tup [rwS, lio, i64], z0, pre76⟩
def c76 : Ctx := ⟨[], [(106, p76, le76)]⟩
def e76 : Ent := b76.fw (fnG Try.prog G0 b76 TU)
theorem VJ {p : List Int -> Bool} {A : RL} (hd : disR A) (h : 0 <= ixR p A 0) :
 ixR p A 0 < (A.length : Int) /\ (wiR A ((A.getD (ixR p A 0).toNat []).headD 0)).length + 1 = A.length /\ A.filter p = A.getD (ixR p A 0).toNat [] :: (wiR A ((A.getD (ixR p A 0).toNat []).headD 0)).filter p /\
  A.filter (fun r => !p r) = (wiR A ((A.getD (ixR p A 0).toNat []).headD 0)).filter (fun r => !p r) /\ disR (wiR A ((A.getD (ixR p A 0).toNat []).headD 0)) := by
 rcases CW p A with hn | ⟨X, r, Y, rfl, h1, h2⟩
 ·rw [Ej hn] at h; omega
 ·have e0 : ixR p (X ++ r :: Y) 0 = X.length := by rw [Dq h1 h2]; omega
  rw [e0, Int.toNat_natCast]
  have e1 : (X ++ r :: Y).getD X.length [] = r := by simp [List.getD]
  rw [e1]
  unfold disR at hd ⊢
  rw [List.pairwise_append, List.pairwise_cons] at hd
  obtain ⟨d1, ⟨d2, d3⟩, d4⟩ := hd
  have e2 : wiR (X ++ r :: Y) (r.headD 0) = X ++ Y := by
   unfold wiR
   rw [List.filter_append, List.filter_cons_of_neg (by simp)]
   congr 1
   ·exact List.filter_eq_self.2 fun x hx => decide_eq_true (d4 x hx r (List.mem_cons_self ..))
   ·exact List.filter_eq_self.2 fun x hx => decide_eq_true fun e => d2 x hx e.symm
  rw [e2]
  refine ⟨by simp; omega, by simp; omega, ?_, ?_, ?_⟩
  ·rw [List.filter_append, List.filter_append, List.filter_cons_of_pos h2, List.filter_eq_nil_iff.2 (fun x hx => by rw [h1 x hx]; decide)]; rfl
  ·rw [List.filter_append, List.filter_append, List.filter_cons_of_neg (by simp [h2])]
  ·rw [List.pairwise_append]
   exact ⟨d1, d3, fun x hx y hy => d4 x hx y (List.mem_cons_of_mem _ hy)⟩
theorem VK {p : List Int -> Bool} {A : RL} (h : ¬ 0 <= ixR p A 0) : A.filter p = [] /\ A.filter (fun r => !p r) = A := by
 rcases CW p A with hn | ⟨X, r, Y, rfl, h1, h2⟩
 ·exact ⟨List.filter_eq_nil_iff.2 fun x hx => by rw [hn x hx]; decide, List.filter_eq_self.2 fun x hx => by rw [hn x hx]; rfl⟩
 ·rw [Dq h1 h2] at h; omega
theorem Lr {c : Int} {l : RL} (e : dc c = l) (h1 : rowsOK k4 l) (h2 : (l.length : Int) <= capR) : okR c := by unfold okR; rw [e]; exact ⟨h1, h2⟩
theorem Wh : c75a.OK Try.prog G0 := (Ctx.OK.nil.addF Hx.1 rfl).addF Jk.1 rfl
theorem okTa : IPz 105 pTa leTa TP := by
 refine Wh.nm.loopK muTa false 9075 [(100000102, e102.nm), (100000103, e103.nm)] ⟨_, _, _, Try.func105, rfl, rfl⟩ ?_
 go_invoke
 refine enK rfl ?_
 intro φ l ρ nw hnw c0 hc0 bu hbu mo hmo L R a ha hp hφ v1 v2 hn2 hSS hd
 simp (disch := omega) only [and_true, Ent.nm_fn, hSS, ewZ, reduceCtorEq, seval] at hd
 obtain ⟨hd1, hd2⟩ := hd
 obtain ⟨p1, p2, p3, p4, p5, p6⟩ := hp
 replace p1 : okR L := p1
 replace p2 : okR R := p2
 replace p4 : disR (dc L) := p4
 replace p6 : a = ixR (isAt 0 (nw % 512)) (dc L) 0 := p6
 simp only [ewY, seval] at p3 p5
 unfold capR at p3
 have tm : nw.tmod 512 = nw % 512 := Int.tmod_eq_emod_of_nonneg p5
 have wm : IntKind.i64.wrap (nw % 512) = nw % 512 := i64w (by omega) (by omega)
 by_cases hn : 0 <= a
 ·have ha' := hn
  rw [p6] at ha'
  obtain ⟨s1, s2, s3, s4, s5⟩ := VJ p4 ha'
  rw [<- p6] at s1 s2 s3 s4 s5
  obtain ⟨x, y, z, w, er, _, hx, hy, hz, hw⟩ := FU p1 hn s1
  rw [er] at s2 s3 s4 s5
  replace s2 : (wiR (dc L) x).length + 1 = (dc L).length := s2
  replace s3 : (dc L).filter (isAt 0 (nw % 512)) = [x, y, z, w] :: (wiR (dc L) x).filter (isAt 0 (nw % 512)) := s3
  replace s4 : (dc L).filter (fun r => !isAt 0 (nw % 512) r) = (wiR (dc L) x).filter (fun r => !isAt 0 (nw % 512) r) := s4
  replace s5 : disR (wiR (dc L) x) := s5
  have y1 : e103.pre [L, x] := p1
  simp (disch := omega) only [ewZ, reduceCtorEq, seval, er, hx, hy, hz, hw, tm, wm] at hd1 hd2
  obtain ⟨B', hB'⟩ : ∃ B', B' = cd (dc R ++ [[x, y, z, w]]) := ⟨_, rfl⟩
  rw [<- hB'] at hd2
  have dB : dc B' = dc R ++ [[x, y, z, w]] := by rw [hB']; exact Ab _
  have q1 : dc v1 = wiR (dc L) x := (PostOK.usf (vs := [v1]) Hx.2 ⟨hd1, trivial⟩) ⟨rfl, hx, trivial⟩ y1
  obtain ⟨o1, o2⟩ := Ou p1 q1
  have lB : ((dc R ++ [[x, y, z, w]]).length : Int) = ((dc R).length : Int) + 1 := by simp
  have l1 : (dc v1).length + 1 = (dc L).length := by rw [q1]; exact s2
  have oB : okR B' := Lr dB (fun r hr => by
   rcases List.mem_append.1 hr with hr | hr
   ·exact p2.1 r hr
   ·simp only [List.mem_singleton] at hr
    subst hr
    exact ⟨hx, hy, hz, hw, trivial⟩) (by rw [lB]; unfold capR; omega)
  have y2 : e102.pre [nw, c0, bu, mo, v1, B', 0, nw % 512] := o1
  have q2 : v2 = ixR (isAt 0 (nw % 512)) (dc v1) 0 := (PostOK.usf (vs := [v2]) Jk.2 ⟨hd2, trivial⟩) ⟨hnw, hc0, hbu, hmo, rfl, rfl, rfl, wm, trivial⟩ y2
  have yp : lbTa.ent.pre [nw, c0, bu, mo, v1, B', v2] := ⟨o1, oB, by show ((dc v1).length : Int) + ((dc B').length : Int) <= capR; rw [dB, lB]; unfold capR; omega, by show disR (dc v1); rw [q1]; exact s5, p5, q2⟩
  have ym : muTa [nw, c0, bu, mo, v1, B', v2] < muTa [nw, c0, bu, mo, L, R, a] := by show (dc v1).length < (dc L).length; omega
  obtain ⟨⟨i1, i2, i3, i4⟩, i5, i6⟩ := hφ [nw, c0, bu, mo, v1, B', v2] ⟨hnw, hc0, hbu, hmo, rfl, rfl, hn2, trivial⟩ yp ym
  refine ⟨?_, ?_⟩ <;> simp (disch := omega) only [ewZ, reduceCtorEq, seval, hSS, hn, er, hx, hy, hz, hw, tm, wm, <- hB']
  ·exact ⟨⟨⟨s1, ⟨by omega, by rw [dB]; omega⟩, y1⟩, y2⟩, yp, ym⟩
  ·refine ⟨⟨i1, i2, i3, i4⟩, ?_, ?_⟩
   ·refine Eq.trans i5 ?_
    show (dc v1).filter (fun r => !isAt 0 (nw % 512) r) = (dc L).filter (fun r => !isAt 0 (nw % 512) r)
    rw [q1, s4]
   ·refine Eq.trans i6 ?_
    show dc B' ++ (dc v1).filter (isAt 0 (nw % 512)) = dc R ++ (dc L).filter (isAt 0 (nw % 512))
    rw [q1, s3, dB, List.append_assoc]; rfl
 ·refine ⟨?_, ?_⟩ <;> simp (disch := omega) only [ewZ, reduceCtorEq, seval, hSS, hn]
  ·obtain ⟨n1, n2⟩ := VK (p := isAt 0 (nw % 512)) (A := dc L) (by rw [<- p6]; exact hn)
   refine ⟨⟨rfl, rfl, rfl, rfl⟩, n2.symm, ?_⟩
   show dc R = dc R ++ (dc L).filter (isAt 0 (nw % 512))
   rw [n1]; exact (List.append_nil _).symm
theorem UD {n : Int} {A : RL} {lv a : Int} (h : 1 <= lv /\ lv <= 3) : atG n A (lv - 1) (if 0 <= ixW n A lv then ixW n A lv else a) = atG n A lv a := by
 unfold atG
 have : lv = 1 \/ lv = 2 \/ lv = 3 := by omega
 rcases this with rfl | rfl | rfl
 ·simp
 ·by_cases h1 : 0 <= ixW n A 1 <;> by_cases h2 : 0 <= ixW n A 2 <;> simp [h1, h2]
 ·by_cases h1 : 0 <= ixW n A 1 <;> by_cases h2 : 0 <= ixW n A 2 <;> by_cases h3 : 0 <= ixW n A 3 <;> simp [h1, h2, h3]
theorem atG_R (n : Int) (A : RL) : atG n A 3 (-1) = atR n A := by unfold atG atR ixW; simp
theorem Wi : c75c.OK Try.prog G0 := (Ctx.OK.nil.addF Ji.1 rfl).addF Jk.1 rfl
theorem okTc : IPz 105 pTc leTc TQ := by
 refine Wi.nm.loopK muTc false 9275 [(100000102, e102.nm), (100000104, e104.nm)] ⟨_, _, _, Try.func105, rfl, rfl⟩ ?_
 go_invoke
 refine enK rfl ?_
 intro φ l ρ nw hnw c0 hc0 bu hbu mo hmo L R a ha lv hlv hp hφ v1 hn1 v2 hn2 hSS hd
 simp (disch := omega) only [and_true, Ent.nm_fn, hSS, ewZ, reduceCtorEq, seval] at hd
 obtain ⟨hd1, hd2⟩ := hd
 obtain ⟨p1, p2, p3, p4, p5⟩ := hp
 replace p1 : okR L := p1
 simp only [ewY, seval] at p2 p3 p4 p5
 by_cases hl1 : 1 <= lv
 ·have y1 : e104.pre [lv, nw] := ⟨p4, by show lv <= 4; omega, p2⟩
  have q1 : v1 = blk lv nw := (PostOK.usf (vs := [v1]) Ji.2 ⟨hd1, trivial⟩) ⟨hlv, hnw, trivial⟩ y1
  have r1 := A2 lv p2
  have tm : (v1 + 1).tmod 512 = (v1 + 1) % 512 := Int.tmod_eq_emod_of_nonneg (by omega)
  have wm : IntKind.i64.wrap ((v1 + 1) % 512) = (v1 + 1) % 512 := i64w (by omega) (by omega)
  simp (disch := omega) only [ewZ, reduceCtorEq, seval, tm, wm] at hd2
  have y2 : e102.pre [nw, c0, bu, mo, L, R, lv, (v1 + 1) % 512] := p1
  have q2 : v2 = ixR (isAt lv ((v1 + 1) % 512)) (dc L) 0 := (PostOK.usf (vs := [v2]) Jk.2 ⟨hd2, trivial⟩) ⟨hnw, hc0, hbu, hmo, rfl, rfl, hlv, wm, trivial⟩ y2
  replace q2 : v2 = ixW nw (dc L) lv := by rw [q2, q1]; rfl
  obtain ⟨a', ha'⟩ : ∃ a', (if 0 <= v2 then v2 else a) = a' := ⟨_, rfl⟩
  have wa' : IntKind.i64.wrap a' = a' := by rw [<- ha']; split; exact hn2; exact ha
  have yp : lbTc.ent.pre [nw, c0, bu, mo, L, R, a', lv - 1] := ⟨p1, p2, p3, by show 0 <= lv - 1; omega, by show lv - 1 <= 3; omega⟩
  have ym : muTc [nw, c0, bu, mo, L, R, a', lv - 1] < muTc [nw, c0, bu, mo, L, R, a, lv] := by show (lv - 1).toNat < lv.toNat; omega
  have ih := hφ [nw, c0, bu, mo, L, R, a', lv - 1] ⟨hnw, hc0, hbu, hmo, rfl, rfl, wa', i64w (by omega) (by omega), trivial⟩ yp ym
  replace ih : IntKind.i64.wrap (φ 0 [nw, c0, bu, mo, L, R, a', lv - 1]) = atG nw (dc L) (lv - 1) a' := ih
  rw [<- ha', q2, UD ⟨hl1, p5⟩, <- q2, ha'] at ih
  refine ⟨?_, ?_⟩ <;> simp (disch := omega) only [ewZ, reduceCtorEq, seval, hSS, hl1, tm, wm, ha']
  ·repeat' (first | (with_reducible apply Jj) | (with_reducible intro _))
   all_goals first | with_reducible assumption | trivial | omega | (split <;> omega)
  ·exact ih
 ·refine ⟨?_, ?_⟩ <;> simp (disch := omega) only [ewZ, reduceCtorEq, seval, hSS, hl1]
  ·show a = atG nw (dc L) lv a
   unfold atG; rw [if_pos (by omega)]
theorem Wj : c75b.OK Try.prog G0 := Ctx.OK.addL (c := ⟨[e103, e105], []⟩) ((Ctx.OK.nil.addF M9.1 rfl).addF Hx.1 rfl) okTc.1 rfl
theorem okTb : IPz 105 pTb leTb TR := by
 refine Wj.nm.loopK muTb false 9175 [(100000103, e103.nm), (100000105, e105.nm), (100009275, leTc.nm.ent)] ⟨_, _, _, Try.func105, rfl, rfl⟩ ?_
 go_invoke
 refine enK rfl ?_
 intro φ l ρ nw hnw c0 hc0 bu hbu mo hmo L R m hm hp hφ v1 hn1 v2 v3 hn3 v4 hn4 v5 hn5 v6 hn6 v7 v8 hSS hd
 simp (disch := omega) only [and_true, Ent.nm_fn, hSS, ewZ, reduceCtorEq, seval] at hd
 obtain ⟨hd1, hd2, hd3, hd4, hd5, hd6, hd7, hd8⟩ := hd
 obtain ⟨⟨S, T, le, wt, p1⟩, p2, ⟨p3, p4, p5⟩, p6, p7⟩ := hp
 replace p1 : RFW nw bu le S T wt (dc L) (dc R) := p1
 replace p2 : okR L := p2
 simp only [ewY, seval] at p3 p4 p5 p6 p7
 have hcap := p2.2
 unfold capR at hcap
 by_cases hm1 : m < bu
 ·have y1 : leTc.ent.pre [nw, c0, bu, mo, L, R, -1, 3] := ⟨p2, p6, p7, by show (0 : Int) <= 3; decide, by show (3 : Int) <= 3; decide⟩
  have q1 : v1 = atG nw (dc L) 3 (-1) := (PostOK.usf (vs := [v1]) okTc.2 ⟨hd1, trivial⟩) ⟨hnw, hc0, hbu, hmo, rfl, rfl, rfl, rfl, trivial⟩ y1
  rw [atG_R] at q1
  obtain ⟨k, hk⟩ : ∃ k : Nat, (bu - m).toNat = k + 1 := ⟨(bu - m).toNat - 1, by omega⟩
  rcases p1.wait with ⟨a1, a2⟩ | ⟨i, a1, a2, a3, b1, b2, b3⟩
  ·have hv : v1 < 0 := by rw [q1, a2]; decide
   have em : mvA nw (bu - m).toNat (dc L) = (dc L, 0) := by rw [hk, mvA, if_pos (by rw [a2]; decide)]
   refine ⟨?_, ?_⟩ <;> simp (disch := omega) only [ewZ, reduceCtorEq, seval, hSS, hm1, hv]
   ·exact y1
   ·refine ⟨⟨rfl, rfl, rfl, rfl⟩, ?_, rfl, ?_⟩
    ·show dc L = (mvA nw (bu - m).toNat (dc L)).1
     rw [em]
    ·show m = m + (mvA nw (bu - m).toNat (dc L)).2
     rw [em]; exact (Int.add_zero _).symm
  ·have hv : ¬ v1 < 0 := by rw [q1]; omega
   rw [<- q1] at b1 b2 b3
   obtain ⟨x, y, z, w, er, _, hx, hy, hz, hw⟩ := FU p2 b1 b2
   have e3 := b3
   rw [er] at e3
   have ex : x = (i : Int) := by injection e3
   have ey : y = gC T i 4 := by injection e3 with _ e4; injection e4
   simp (disch := omega) only [ewZ, reduceCtorEq, seval, er, hx, hy, hz, hw] at hd2 hd3 hd4 hd5 hd6 hd7 hd8
   have y2 : e103.pre [L, x] := p2
   have q2 : dc v2 = wiR (dc L) x := (PostOK.usf (vs := [v2]) Hx.2 ⟨hd2, trivial⟩) ⟨rfl, hx, trivial⟩ y2
   obtain ⟨o1, o2⟩ := Ou p2 q2
   obtain ⟨w1, w2, w3⟩ := CN.1 a3
   have hdr : gC T i 4 <= nw + 2147483648 := by obtain ⟨Q, ok, _⟩ := p1; exact (ok.dr i a2).2
   have hl2 : (dc v2).length + 1 <= (dc L).length := by
    rw [q2]
    have hmem : [x, y, z, w] ∈ dc L := by
     rw [<- er]
     have hlt : v1.toNat < (dc L).length := by omega
     rw [show (dc L).getD v1.toNat [] = (dc L)[v1.toNat] by simp [List.getD, hlt]]
     exact List.getElem_mem hlt
    exact List.length_filter_lt_length_iff_exists.2 ⟨_, hmem, by simp⟩
   have y3 : e105.pre [nw, c0, bu, mo, v2, R, x, y] := ⟨o1, by show ((dc v2).length : Int) < capR; unfold capR; omega, by show timD nw y; rw [ey]; exact ⟨p6, p7, w1, hdr⟩⟩
   obtain ⟨⟨t1, t2, t3, t4⟩, t5, t6⟩ := (PostOK.usf (vs := [v3, v4, v5, v6, v7, v8]) M9.2 ⟨hd3, hd4, hd5, hd6, hd7, hd8, trivial⟩) ⟨hnw, hc0, hbu, hmo, rfl, rfl, hx, hy, trivial⟩ y3
   replace t1 : v3 = nw := t1
   replace t2 : v4 = c0 := t2
   replace t3 : v5 = bu := t3
   replace t4 : v6 = mo := t4
   replace t5 : dc v7 = puR nw (dc v2) x y := t5
   replace t6 : v8 = R := t6
   obtain ⟨mv, _⟩ := p1.move a1 a2 a3
   have e7 : dc v7 = puR nw (wiR (dc L) i) i (gC T i 4) := by rw [t5, q2, ex, ey]
   have l7 : (dc v7).length = (dc v2).length + 1 := by rw [t5]; unfold puR; simp
   have o7 : okR v7 := by
    refine Lr t5 ?_ (by rw [<- t5]; unfold capR; omega)
    intro r hr
    rcases List.mem_append.1 hr with hr | hr
    ·exact o1.1 r hr
    ·simp only [List.mem_singleton] at hr
     subst hr
     have hb := A2 (lvF nw y) (t := y) (by omega)
     have hlv : 0 <= lvF nw y /\ lvF nw y <= 3 := by unfold lvF; split <;> (try split) <;> (try split) <;> omega
     exact ⟨hx, hy, i64w (by omega) (by omega), i64w (by omega) (by omega), trivial⟩
   have yp : lbTb.ent.pre [v3, v4, v5, v6, v7, v8, m + 1] := by
    refine ⟨⟨(mvW nw (S, T)).1, (mvW nw (S, T)).2, le, wt - 1, ?_⟩, o7, ⟨by show 0 <= m + 1; omega, by show m + 1 <= v5; omega, by show v5 <= 4096; omega⟩, by show 0 <= v3; omega, by show v3 <= 1099511627776; omega⟩
    show RFW v3 v5 le _ _ (wt - 1) (dc v7) (dc v8)
    rw [t1, t3, e7, t6]; exact mv
   have ym : muTb [v3, v4, v5, v6, v7, v8, m + 1] < muTb [nw, c0, bu, mo, L, R, m] := by show (v5 - (m + 1)).toNat < (bu - m).toNat; omega
   obtain ⟨⟨i1, i2, i3, i4⟩, i5, i6, i7⟩ := hφ [v3, v4, v5, v6, v7, v8, m + 1] ⟨hn3, hn4, hn5, hn6, rfl, rfl, i64w (by omega) (by omega), trivial⟩ yp ym
   have em : mvA nw (bu - m).toNat (dc L) = ((mvA nw (bu - (m + 1)).toNat (dc v7)).1, (mvA nw (bu - (m + 1)).toNat (dc v7)).2 + 1) := by
    rw [hk, mvA, if_neg (by rw [<- q1]; exact hv), <- q1, b3, e7, show (bu - (m + 1)).toNat = k by omega]; rfl
   refine ⟨?_, ?_⟩ <;> simp (disch := omega) only [ewZ, reduceCtorEq, seval, hSS, hm1, hv, er, hx, hy]
   ·exact ⟨⟨y1, ⟨b1, b2⟩, y2, y3⟩, yp, ym⟩
   ·refine ⟨⟨i1.trans t1, i2.trans t2, i3.trans t3, i4.trans t4⟩, ?_, ?_, ?_⟩
    ·refine i5.trans ?_
     show (mvA v3 (v5 - (m + 1)).toNat (dc v7)).1 = (mvA nw (bu - m).toNat (dc L)).1
     rw [em, t1, t3]
    ·refine i6.trans ?_
     show dc v8 = dc R
     rw [t6]
    ·refine i7.trans ?_
     show m + 1 + (mvA v3 (v5 - (m + 1)).toNat (dc v7)).2 = m + (mvA nw (bu - m).toNat (dc L)).2
     rw [em, t1, t3]
     show m + 1 + _ = m + (_ + 1)
     omega
 ·have em : mvA nw (bu - m).toNat (dc L) = (dc L, 0) := by rw [show (bu - m).toNat = 0 by omega]; rfl
  refine ⟨?_, ?_⟩ <;> simp (disch := omega) only [ewZ, reduceCtorEq, seval, hSS, hm1]
  ·refine ⟨⟨rfl, rfl, rfl, rfl⟩, ?_, rfl, ?_⟩
   ·show dc L = (mvA nw (bu - m).toNat (dc L)).1
    rw [em]
   ·show m = m + (mvA nw (bu - m).toNat (dc L)).2
    rw [em]; exact (Int.add_zero _).symm
theorem PQ (now : Int) : ∀ (n : Nat) (A : RL), 0 <= (mvA now n A).2 /\ (mvA now n A).2 <= n
 | 0, A => ⟨Int.le_refl _, Int.le_refl _⟩
 | n + 1, A => by
   rw [mvA]
   split
   ·exact ⟨Int.le_refl _, by show (0 : Int) <= _; omega⟩
   ·have := PQ now n (puR now (wiR A ((A.getD (atR now A).toNat []).headD 0)) ((A.getD (atR now A).toNat []).headD 0) ((A.getD (atR now A).toNat []).getD 1 0))
    constructor
    ·show 0 <= _ + 1; omega
    ·show _ + 1 <= _; omega
theorem RV.dis {S now bu le mo T c : Int} {A B : RL} (h : RV S now bu le mo T c A B) : disR A := by
 obtain ⟨Q, ok, ⟨la, rfl, nd, h1, h2⟩, rfl⟩ := h.r
 unfold disR
 rw [List.pairwise_map]
 exact nd.imp fun hab e => hab (by
  have : ((_ : Nat) : Int) = ((_ : Nat) : Int) := e
  omega)
theorem c75ok : c75.OK Try.prog G0 := by
 have h := Ctx.OK.addL (c := ⟨[e102], []⟩) (Ctx.OK.nil.addF Jk.1 rfl) okTb.1 rfl
 exact h.addL okTa.1 rfl
theorem ok75 : EPz e75 TS := by
 refine c75ok.nm.entryK false [(100000102, e102.nm), (100009075, leTa.nm.ent), (100009175, leTb.nm.ent)] ?_
 go_invoke
 refine enK rfl ?_
 intro l ρ nw hnw c0 hc0 bu hbu mo hmo L R hp v1 hn1 v2 hn2 v3 hn3 v4 hn4 v5 hn5 v6 v7 v8 hn8 v9 hn9 v10 hn10 v11 hn11 v12 v13 v14 hn14 hSS hd
 simp (disch := omega) only [and_true, Ent.nm_fn, hSS, ewZ, reduceCtorEq, seval] at hd
 obtain ⟨hd1, hd2, hd3, hd4, hd5, hd6, hd7, hd8, hd9, hd10, hd11, hd12, hd13, hd14⟩ := hd
 obtain ⟨⟨S, le, T, p1⟩, p2, p3, p4⟩ := hp
 replace p1 : RV S nw bu le mo T c0 (dc L) (dc R) := p1
 replace p2 : okR L := p2
 replace p3 : okR R := p3
 simp only [ewY, seval] at p4
 have htm := p1.tm
 have hbg := p1.bg
 have hmb := p1.mb
 have hla := p1.lenA
 have hln := p1.len
 have hler := p1.ler
 by_cases hM : nw = 1099511627776
 ·refine ⟨?_, ?_⟩ <;> simp (disch := omega) only [ewZ, reduceCtorEq, seval, hSS, hM]
  ·refine ⟨⟨(if_pos rfl).symm, rfl, rfl, ?_⟩, (if_pos rfl).symm, (if_pos rfl).symm, (if_pos rfl).symm⟩
   show mo = mo + tkM 1099511627776 bu (dc L)
   rw [show tkM 1099511627776 bu (dc L) = 0 from if_pos rfl, Int.add_zero]
 ·have tm : (nw + 1).tmod 512 = (nw + 1) % 512 := Int.tmod_eq_emod_of_nonneg (by omega)
  have wm : IntKind.i64.wrap ((nw + 1) % 512) = (nw + 1) % 512 := i64w (by omega) (by omega)
  simp (disch := omega) only [ewZ, reduceCtorEq, seval, tm, wm] at hd1 hd2 hd3 hd4 hd5 hd6 hd7
  have w1 : IntKind.i64.wrap (nw + 1) = nw + 1 := i64w (by omega) (by omega)
  have y1 : e102.pre [nw + 1, c0, bu, mo, L, R, 0, (nw + 1) % 512] := p2
  have q1 : v1 = ixR (isAt 0 ((nw + 1) % 512)) (dc L) 0 := (PostOK.usf (vs := [v1]) Jk.2 ⟨hd1, trivial⟩) ⟨w1, hc0, hbu, hmo, rfl, rfl, rfl, wm, trivial⟩ y1
  have y2 : leTa.ent.pre [nw + 1, c0, bu, mo, L, R, v1] := ⟨p2, p3, by show ((dc L).length : Int) + ((dc R).length : Int) <= capR; unfold capR; omega, p1.dis, by show 0 <= nw + 1; omega, q1⟩
  obtain ⟨⟨a1, a2, a3, a4⟩, a5, a6⟩ := (PostOK.usf (vs := [v2, v3, v4, v5, v6, v7]) okTa.2 ⟨hd2, hd3, hd4, hd5, hd6, hd7, trivial⟩) ⟨w1, hc0, hbu, hmo, rfl, rfl, hn1, trivial⟩ y2
  replace a1 : v2 = nw + 1 := a1
  replace a2 : v3 = c0 := a2
  replace a3 : v4 = bu := a3
  replace a4 : v5 = mo := a4
  replace a5 : dc v6 = (dc L).filter (fun r => !isAt 0 ((nw + 1) % 512) r) := a5
  replace a6 : dc v7 = dc R ++ (dc L).filter (isAt 0 ((nw + 1) % 512)) := a6
  obtain ⟨j1, _, _⟩ := p1.r.join (by omega)
  have o6 : okR v6 := Lr a5 (fun r hr => p2.1 r (List.mem_filter.1 hr).1) (by have := List.length_filter_le (fun r => !isAt 0 ((nw + 1) % 512) r) (dc L); unfold capR; omega)
  have y3 : leTb.ent.pre [v2, v3, v4, v5, v6, v7, 0] := by
   refine ⟨⟨(joinW ((nw + 1) % 512).toNat (dc S, dc T)).1, (joinW ((nw + 1) % 512).toNat (dc S, dc T)).2, le, bu * (256 - (nw + 1) % 256), ?_⟩, o6, ⟨by show (0 : Int) <= 0; decide, by show 0 <= v4; omega, by show v4 <= 4096; omega⟩, by show 0 <= v2; omega, by show v2 <= 1099511627776; omega⟩
   show RFW v2 v4 le _ _ _ (dc v6) (dc v7)
   rw [a1, a3, a5, a6]; exact j1
  obtain ⟨⟨b1, b2, b3, b4⟩, b5, b6, b7⟩ := (PostOK.usf (vs := [v8, v9, v10, v11, v12, v13, v14]) okTb.2 ⟨hd8, hd9, hd10, hd11, hd12, hd13, hd14, trivial⟩) ⟨hn2, hn3, hn4, hn5, rfl, rfl, rfl, trivial⟩ y3
  replace b5 : dc v12 = (mvA v2 (v4 - 0).toNat (dc v6)).1 := b5
  replace b7 : v14 = 0 + (mvA v2 (v4 - 0).toNat (dc v6)).2 := b7
  rw [a1, a3, a5, Int.sub_zero] at b5 b7
  rw [Int.zero_add] at b7
  have eM : tkM nw bu (dc L) = v14 := by rw [b7]; exact if_neg hM
  have r14 : 0 <= v14 /\ v14 <= bu := by
   have := PQ (nw + 1) bu.toNat ((dc L).filter fun r => !isAt 0 ((nw + 1) % 512) r)
   rw [b7]; omega
  refine ⟨?_, ?_⟩ <;> simp (disch := omega) only [ewZ, reduceCtorEq, seval, hSS, hM, tm, wm]
  ·exact ⟨⟨y1, y2⟩, y3⟩
  ·replace b4 : v11 = v5 := b4
   refine ⟨⟨?_, b2.trans a2, b3.trans a3, ?_⟩, ?_, ?_, ?_⟩
   ·refine (b1.trans a1).trans ?_
    show nw + 1 = nowT nw
    exact (if_neg hM).symm
   ·show IntKind.i64.wrap (v11 + v14) = mo + tkM nw bu (dc L)
    rw [eM, b4, a4]; exact i64w (by omega) (by omega)
   ·show dc v12 = tkA nw bu (dc L)
    rw [b5]; exact (if_neg hM).symm
   ·refine Eq.trans b6 ?_
    show dc v7 = tkB nw (dc L) (dc R)
    rw [a6]; exact (if_neg hM).symm
   ·exact eM.symm
theorem ok76L : IPz 106 p76 le76 TT := by
 refine cIok.nm.loopK muTe false 9076 [] ⟨_, _, _, Try.func106, rfl, rfl⟩ ?_
 go_invoke
 refine enK rfl ?_
 intro φ l ρ k hk nw hnw c0 hc0 bu hbu mo hmo L R o hp hφ hSS _
 obtain ⟨p1, p2, p3, p4⟩ := hp
 replace p1 : okR R := p1
 simp only [ewY, seval] at p2 p3 p4
 have rk := i64r hk
 unfold capR at p3
 have lo : IntKind.i64.wrap (((dc o).length : Nat) : Int) = ((dc o).length : Int) := i64w (by omega) (by omega)
 have lr := lenW p1
 by_cases hc : ((dc o).length : Int) < k /\ 0 < ((dc R).length : Int)
 ·obtain ⟨h1, h2⟩ := hc
  obtain ⟨x, y, z, w, er, hdr, hx, hy, hz, hw⟩ := FU p1 (i := 0) (by decide) h2
  have hR : dc R = [x, y, z, w] :: (dc R).drop 1 := hdr
  have er0 : (dc R).getD 0 [] = [x, y, z, w] := er
  have h2' : 0 < (dc R).length := by omega
  obtain ⟨o', ho'⟩ : ∃ o', o' = cd (dc o ++ [[x]]) := ⟨_, rfl⟩
  obtain ⟨R', hR'⟩ : ∃ R', R' = cd ((dc R).drop 1) := ⟨_, rfl⟩
  have do' : dc o' = dc o ++ [[x]] := by rw [ho']; exact Ab _
  have dR' : dc R' = (dc R).drop 1 := by rw [hR']; exact Ab _
  have lo' : ((dc o ++ [[x]]).length : Int) = ((dc o).length : Int) + 1 := by simp
  have lR' : (dc R').length + 1 = (dc R).length := by rw [dR', List.length_drop]; omega
  have oR' : okR R' := Lr dR' (fun r hr => p1.1 r (List.mem_of_mem_drop hr)) (by rw [<- dR']; unfold capR; omega)
  have yp : lb76.ent.pre [k, nw, c0, bu, mo, L, R', o'] := ⟨oR', p2, by show ((dc o').length : Int) + ((dc R').length : Int) <= capR; rw [do', lo']; unfold capR; omega, by show ((dc o').length : Int) <= k; rw [do', lo']; omega⟩
  have ym : muTe [k, nw, c0, bu, mo, L, R', o'] < muTe [k, nw, c0, bu, mo, L, R, o] := by show (dc R').length < (dc R).length; omega
  have ih := hφ [k, nw, c0, bu, mo, L, R', o'] ⟨hk, hnw, hc0, hbu, hmo, rfl, rfl, rfl, trivial⟩ yp ym
  refine ⟨?_, ?_⟩ <;> simp (disch := omega) only [ewZ, reduceCtorEq, seval, hSS, h1, h2, h2', er0, hx, lo, lr]
  ·rw [<- hR', <- ho']
   exact ⟨⟨by omega, by omega⟩, yp, ym⟩
  ·rw [<- hR', <- ho']
   obtain ⟨⟨i1, i2, i3, i4⟩, i5, i6, i7⟩ := ih
   obtain ⟨t, ht⟩ : ∃ t : Nat, (k - ((dc o).length : Int)).toNat = t + 1 := ⟨(k - ((dc o).length : Int)).toNat - 1, by omega⟩
   have e1 : Jm [k, nw, c0, bu, mo, L, R, o] = t + 1 := ht
   have e2 : Jm [k, nw, c0, bu, mo, L, R', o'] = t := by show (k - ((dc o').length : Int)).toNat = t; rw [do', lo']; omega
   rw [e2] at i6 i7
   refine ⟨⟨i1, i2, i3, i4⟩, i5, ?_, ?_⟩
   ·refine Eq.trans i6 ?_
    show (dc R').drop t = (dc R).drop _
    rw [e1, hR, dR']; rfl
   ·refine Eq.trans i7 ?_
    show dc o' ++ idsL ((dc R').take t) = dc o ++ idsL ((dc R).take _)
    rw [e1, do', dR', List.append_assoc]
    congr 1
    rw [hR]; rfl
 ·refine ⟨?_, ?_⟩ <;> simp (disch := omega) only [ewZ, reduceCtorEq, seval, hSS, hc, lo, lr]
  ·exact fun h => h
  ·have hC : ((dc o).length : Int) < k -> ((dc R).length : Int) <= 0 := by omega
   simp only [if_pos hC]
   have hz : dc R = [] \/ Jm [k, nw, c0, bu, mo, L, R, o] = 0 := by
    by_cases h : ((dc o).length : Int) < k
    ·exact Or.inl (List.length_eq_zero_iff.1 (by omega))
    ·right; show (k - ((dc o).length : Int)).toNat = 0; omega
   refine ⟨⟨rfl, rfl, rfl, rfl⟩, rfl, ?_, ?_⟩
   ·show dc R = (dc R).drop _
    rcases hz with h | h
    ·rw [h]; simp
    ·rw [h]; rfl
   ·show dc o = dc o ++ idsL ((dc R).take _)
    rcases hz with h | h
    ·rw [h]; simp [idsL]
    ·rw [h]; simp [idsL]
theorem c76ok : c76.OK Try.prog G0 := ⟨rfl, mF trivial, mF ⟨ok76L.1, trivial⟩⟩
theorem ok76 : EPz e76 TU := by
 refine c76ok.nm.entryK false [(100009076, le76.nm.ent)] ?_
 go_invoke
 refine enK rfl ?_
 intro l ρ nw hnw c0 hc0 bu hbu mo hmo L R k hk hp v1 hn1 v2 hn2 v3 hn3 v4 hn4 v5 v6 v7 hSS hd
 simp (disch := omega) only [and_true, Ent.nm_fn, hSS, ewZ, reduceCtorEq, seval] at hd
 obtain ⟨hd1, hd2, hd3, hd4, hd5, hd6, hd7⟩ := hd
 replace hp : okR R := hp
 have d0 : dc (cd ([] : RL)) = [] := Ab _
 have hcap := hp.2
 by_cases hk0 : k < 0
 ·refine ⟨?_, ?_⟩ <;> simp (disch := omega) only [ewZ, reduceCtorEq, seval, hSS, hk0]
  ·refine ⟨⟨rfl, rfl, rfl, rfl⟩, rfl, ?_, ?_, (if_pos hk0).symm⟩
   ·show dc R = (dc R).drop k.toNat
    rw [show k.toNat = 0 by omega]; rfl
   ·show dc (cd []) = idsL ((dc R).take k.toNat)
    rw [show k.toNat = 0 by omega, d0]; rfl
 ·have yp : le76.ent.pre [k, nw, c0, bu, mo, L, R, cd []] := ⟨hp, by show 0 <= k; omega, by show ((dc (cd [])).length : Int) + ((dc R).length : Int) <= capR; rw [d0]; show 0 + _ <= _; omega, by show ((dc (cd [])).length : Int) <= k; rw [d0]; show (0 : Int) <= k; omega⟩
  obtain ⟨i1, i5, i6, i7⟩ := (PostOK.usf (vs := [v1, v2, v3, v4, v5, v6, v7]) ok76L.2 ⟨hd1, hd2, hd3, hd4, hd5, hd6, hd7, trivial⟩) ⟨hk, hnw, hc0, hbu, hmo, rfl, rfl, rfl, trivial⟩ yp
  have e1 : Jm [k, nw, c0, bu, mo, L, R, cd []] = k.toNat := by show (k - ((dc (cd [])).length : Int)).toNat = _; rw [d0]; show (k - 0).toNat = _; rw [Int.sub_zero]
  rw [e1] at i6 i7
  refine ⟨?_, ?_⟩ <;> simp (disch := omega) only [ewZ, reduceCtorEq, seval, hSS, hk0]
  ·exact yp
  ·refine ⟨i1, i5, i6, ?_, (if_neg hk0).symm⟩
   refine Eq.trans i7 ?_
   show dc (cd []) ++ _ = _
   rw [d0]; rfl
end
end Go.Proofs.Ytnockichpnaoeaa.Ew
