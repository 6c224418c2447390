/- Texts that the claim needs, set narrow. -/
import Derived.Test.YtgpflpbldeflhaaDoory3
import Derived.Test.YtgpflpbldeflhaaDoorChecked
set_option linter.unusedVariables false
set_option linter.unusedSimpArgs false
namespace Go.Proofs.YtgpflpbldeflhaaDoor.Ew.Sr
open Go Go.RowKit
abbrev at0 (v : List Int) (i : Nat) : Int := v.getD i 0
theorem LH {v : List Int} {i : Nat} (x : Int) (hi : i < v.length) (k : Nat) : at0 (v.set i x) k = if k = i then x else at0 v k := by
 simp only [at0, List.getD_eq_getElem?_getD, List.getElem?_set]
 by_cases h : i = k
 ·subst h; simp [hi]
 ·rw [if_neg h, if_neg (fun e => h e.symm)]
def sw (v : List Int) (i j : Nat) : List Int := (v.set i (at0 v j)).set j (at0 v i)
theorem Tu (v : List Int) (i j : Nat) : (sw v i j).length = v.length := by simp [sw]
theorem Fl {v : List Int} {i j : Nat} (hi : i < v.length) (hj : j < v.length) (k : Nat) : at0 (sw v i j) k = if k = j then at0 v i else if k = i then at0 v j else at0 v k := by
 unfold sw
 rw [LH _ (by simpa using hj), LH _ hi]
theorem Cz {v : List Int} {i : Nat} (hi : i < v.length) : at0 v i = v[i] := by simp [at0, hi]
theorem SG {v : List Int} {i j : Nat} (hi : i < v.length) (hj : j < v.length) : (sw v i j).Perm v := by
 rw [List.perm_iff_count]
 intro x
 rw [show sw v i j = (v.set i v[j]).set j v[i] from by unfold sw; rw [Cz hi, Cz hj]]
 rw [List.count_set (by simpa using hj), List.count_set hi]
 have hc : ∀ k (hk : k < v.length), v[k] = x -> 0 < v.count x := fun k hk h => List.count_pos_iff.2 (h ▸ List.getElem_mem hk)
 have h1 := hc i hi
 have h2 := hc j hj
 simp only [List.getElem_set, beq_iff_eq]
 by_cases hij : i = j
 ·subst hij
  by_cases e : v[i] = x
  ·have := h1 e; simp [e]; omega
  ·simp [e]
 ·simp only [if_neg hij]
  by_cases e : v[i] = x
  ·by_cases e' : v[j] = x
   ·have := h1 e; simp [e, e']; omega
   ·have := h1 e; simp [e, e']; omega
  ·by_cases e' : v[j] = x
   ·have := h2 e'; simp [e, e']
   ·simp [e, e']
structure Sg (v v' : List Int) (a b : Nat) : Prop where
 pm : v'.Perm v
 out : ∀ i, (i < a \/ b <= i) -> at0 v' i = at0 v i
theorem Sg.refl (v : List Int) (a b : Nat) : Sg v v a b := ⟨.refl _, fun _ _ => rfl⟩
theorem Sg.trans {u v w : List Int} {a b : Nat} (h : Sg u v a b) (h' : Sg v w a b) : Sg u w a b := ⟨h'.pm.trans h.pm, fun i hi => (h'.out i hi).trans (h.out i hi)⟩
theorem Sg.mono {v v' : List Int} {a b c d : Nat} (h : Sg v v' a b) (h1 : c <= a) (h2 : b <= d) : Sg v v' c d := ⟨h.pm, fun i hi => h.out i (by omega)⟩
theorem Sg.len {v v' : List Int} {a b : Nat} (h : Sg v v' a b) : v'.length = v.length := h.pm.length_eq
theorem Sg.sw {v : List Int} {i j a b : Nat} (hi : a <= i /\ i < b) (hj : a <= j /\ j < b) (hb : b <= v.length) : Sg v (sw v i j) a b :=
 ⟨SG (by omega) (by omega), fun k hk => by rw [Fl (by omega) (by omega), if_neg (by omega), if_neg (by omega)]⟩
theorem OV {v v' : List Int} {a b : Nat} (hl : v'.length = v.length) (h : ∀ i, a <= i -> i < b -> at0 v' i = at0 v i) (hb : b <= v.length) : (v'.take b).drop a = (v.take b).drop a := by
 apply List.ext_getElem?
 intro k
 rw [List.getElem?_drop, List.getElem?_drop, List.getElem?_take, List.getElem?_take]
 by_cases hk : a + k < b
 ·rw [if_pos hk, if_pos hk]
  have := h (a + k) (by omega) hk
  have h1 : a + k < v.length := by omega
  have h2 : a + k < v'.length := by omega
  rw [Cz h1, Cz h2] at this
  rw [List.getElem?_eq_getElem h1, List.getElem?_eq_getElem h2, this]
 ·rw [if_neg hk, if_neg hk]
theorem Sg.part {v v' : List Int} {a b : Nat} (h : Sg v v' a b) (hab : a <= b) (hb : b <= v.length) : ((v'.take b).drop a).Perm ((v.take b).drop a) := by
 have hl := h.len
 have e1 : v'.take a = v.take a := by
  have := OV (a := 0) (b := a) hl (fun i _ hi => h.out i (Or.inl hi)) (by omega)
  simpa using this
 have e2 : v'.drop b = v.drop b := by
  have := OV (a := b) (b := v.length) hl (fun i hi _ => h.out i (Or.inr hi)) (Nat.le_refl _)
  rw [List.take_of_length_le (by omega), List.take_of_length_le (Nat.le_refl _)] at this
  exact this
 have sp : ∀ u : List Int, u = u.take a ++ ((u.take b).drop a ++ u.drop b) := fun u => by
  have h1 : u.take a = (u.take b).take a := by rw [List.take_take, Nat.min_eq_left hab]
  rw [h1, <- List.append_assoc, List.take_append_drop, List.take_append_drop]
 have := h.pm
 rw [sp v', sp v, e1, e2] at this
 exact (List.perm_append_right_iff _).1 ((List.perm_append_left_iff _).1 this)
theorem Kw {v : List Int} {a b : Nat} (hb : b <= v.length) {x : Int} : x ∈ (v.take b).drop a ↔ ∃ i, a <= i /\ i < b /\ at0 v i = x := by
 constructor
 ·intro h
  obtain ⟨k, hk, rfl⟩ := List.getElem_of_mem h
  have hk' := hk
  rw [List.length_drop, List.length_take] at hk'
  refine ⟨a + k, by omega, by omega, ?_⟩
  rw [Cz (by omega)]
  simp
 ·rintro ⟨i, h1, h2, rfl⟩
  rw [Cz (by omega)]
  refine List.mem_iff_getElem.2 ⟨i - a, by rw [List.length_drop, List.length_take]; omega, ?_⟩
  simp [Nat.add_sub_cancel' h1]
theorem Sg.all {v v' : List Int} {a b : Nat} (h : Sg v v' a b) (hb : b <= v.length) {P : Int -> Prop} (hP : ∀ i, a <= i -> i < b -> P (at0 v i)) : ∀ i, a <= i -> i < b -> P (at0 v' i) := fun i h1 h2 => by
 have hl := h.len
 have hm := (Kw (v := v') (a := a) (b := b) (by omega)).2 ⟨i, h1, h2, rfl⟩
 obtain ⟨k, k1, k2, k3⟩ := (Kw hb).1 ((h.part (by omega) hb).mem_iff.1 hm)
 rw [<- k3]; exact hP k k1 k2
def So (v : List Int) (a b : Nat) : Prop := ∀ i j, a <= i -> i < j -> j < b -> at0 v i <= at0 v j
theorem So.small {v : List Int} {a b : Nat} (h : b <= a + 1) : So v a b := fun i j h1 h2 h3 => by omega
theorem So.join {v : List Int} {a m b : Nat} (h1 : So v a m) (h2 : So v (m + 1) b) (h3 : ∀ i, a <= i -> i < m -> at0 v i <= at0 v m) (h4 : ∀ i, m < i -> i < b -> at0 v m <= at0 v i) : So v a b := by
 intro i j hi hij hj
 by_cases c1 : j < m
 ·exact h1 i j hi hij c1
 ·by_cases c2 : i < m
  ·have a1 := h3 i hi c2
   by_cases c3 : j = m
   ·rw [c3]; exact a1
   ·exact Int.le_trans a1 (h4 j (by omega) hj)
  ·by_cases c3 : i = m
   ·rw [c3]; exact h4 j (by omega) hj
   ·exact h2 i j (by omega) hij hj
theorem So.out {v v' : List Int} {a b c d : Nat} (h : So v a b) (hs : Sg v v' c d) (hd : b <= c \/ d <= a) : So v' a b := fun i j h1 h2 h3 => by
 rw [hs.out i (by omega), hs.out j (by omega)]; exact h i j h1 h2 h3
theorem So.pairwise {v : List Int} (h : So v 0 v.length) : v.Pairwise fun a b => a <= b := by
 rw [List.pairwise_iff_getElem]
 intro i j hi hj hij
 have := h i j (Nat.zero_le _) hij hj
 rwa [Cz hi, Cz hj] at this
theorem So.sort {v v' : List Int} (hp : v'.Perm v) (h : So v' 0 v'.length) : v' = v.mergeSort fun x y => decide (x <= y) := by
 refine List.Perm.eq_of_pairwise (le := fun a b => decide (a <= b) = true) (fun a b _ _ h1 h2 => by simp only [decide_eq_true_eq] at h1 h2; omega) (h.pairwise.imp fun h => by simpa using h) (List.pairwise_mergeSort (fun a b c h1 h2 => by simp only [decide_eq_true_eq] at h1 h2 ⊢; omega) (fun a b => by simp only [Bool.or_eq_true, decide_eq_true_eq]; omega) _) (hp.trans (List.mergeSort_perm _ _).symm)
def Hq (v : List Int) (f lo hi r : Nat) : Prop := ∀ p, lo <= p -> p ≠ r -> ∀ c, (c = 2 * p + 1 \/ c = 2 * p + 2) -> c < hi -> at0 v (f + c) <= at0 v (f + p)
def Hr (v : List Int) (f lo hi r : Nat) : Prop := ∀ q, lo <= q -> (r = 2 * q + 1 \/ r = 2 * q + 2) -> ∀ c, (c = 2 * r + 1 \/ c = 2 * r + 2) -> c < hi -> at0 v (f + c) <= at0 v (f + q)
theorem OW {v : List Int} {f lo hi r ch : Nat} (hq : Hq v f lo hi r) (hr : Hr v f lo hi r) (hlo : lo <= r) (hch : ch = 2 * r + 1 \/ ch = 2 * r + 2) (h1 : ch < hi) (hl : f + hi <= v.length)
 (hbig : ∀ c, (c = 2 * r + 1 \/ c = 2 * r + 2) -> c < hi -> at0 v (f + c) <= at0 v (f + ch)) (hlt : at0 v (f + r) <= at0 v (f + ch)) :
 Hq (sw v (f + r) (f + ch)) f lo hi ch /\ Hr (sw v (f + r) (f + ch)) f lo hi ch /\ Sg v (sw v (f + r) (f + ch)) (f + lo) (f + hi) := by
 have e : ∀ k, at0 (sw v (f + r) (f + ch)) (f + k) = if k = ch then at0 v (f + r) else if k = r then at0 v (f + ch) else at0 v (f + k) := fun k => by
  rw [Fl (by omega) (by omega)]
  by_cases c1 : k = ch
  ·subst c1; simp
  ·rw [if_neg (by omega), if_neg c1]
   by_cases c2 : k = r
   ·subst c2; simp
   ·rw [if_neg (by omega), if_neg c2]
 refine ⟨fun p hp hne c hc hci => ?_, fun q hlq hqr c hc hci => ?_, Sg.sw (by omega) (by omega) hl⟩
 ·rw [e c, e p, if_neg hne]
  by_cases c1 : p = r
  ·rw [if_pos c1]
   subst c1
   by_cases c2 : c = ch
   ·rw [if_pos c2]; exact hlt
   ·rw [if_neg c2, if_neg (by omega)]; exact hbig c hc hci
  ·rw [if_neg c1, if_neg (by omega : ¬ c = ch)]
   by_cases c2 : c = r
   ·rw [if_pos c2]
    subst c2
    exact hr p hp hc ch hch h1
   ·rw [if_neg c2]; exact hq p hp c1 c hc hci
 ·have hq' : q = r := by omega
  subst hq'
  rw [e c, e q, if_neg (by omega), if_neg (by omega), if_neg (by omega), if_pos rfl]
  exact hq ch (by omega) (by omega) c hc hci
theorem Q7 {v : List Int} {f lo hi r : Nat} (hq : Hq v f lo hi r) (h : ∀ c, (c = 2 * r + 1 \/ c = 2 * r + 2) -> c < hi -> at0 v (f + c) <= at0 v (f + r)) : Hq v f lo hi hi := fun p hp _ c hc hci => by
 by_cases e : p = r
 ·subst e; exact h c hc hci
 ·exact hq p hp e c hc hci
theorem Q8 {v : List Int} {f hi : Nat} (h : Hq v f 0 hi hi) : ∀ c, c < hi -> at0 v (f + c) <= at0 v f := fun c => by
 induction c using Nat.strongRecOn with
 | _ c ih =>
   intro hc
   by_cases e : c = 0
   ·subst e; exact Int.le_refl _
   ·obtain ⟨p, hp⟩ : ∃ p, c = 2 * p + 1 \/ c = 2 * p + 2 := ⟨(c - 1) / 2, by omega⟩
    exact Int.le_trans (h p (Nat.zero_le _) (by omega) c hp hc) (ih p (by omega) (by omega))
structure Pop (v : List Int) (f i hi : Nat) : Prop where
 hp : Hq v f 0 i i
 so : So v (f + i) (f + hi)
 ge : ∀ k j, k < i -> i <= j -> j < hi -> at0 v (f + k) <= at0 v (f + j)
theorem Pop.swap {v : List Int} {f i hi : Nat} (h : Pop v f (i + 1) hi) (hi' : i < hi) (hl : f + hi <= v.length) :
 Hq (sw v f (f + i)) f 0 i 0 /\ Hr (sw v f (f + i)) f 0 i 0 /\ Sg v (sw v f (f + i)) f (f + hi) /\ ∀ v', Sg (sw v f (f + i)) v' f (f + i) -> Hq v' f 0 i i -> Pop v' f i hi := by
 have e : ∀ k, at0 (sw v f (f + i)) (f + k) = if k = i then at0 v f else if k = 0 then at0 v (f + i) else at0 v (f + k) := fun k => by
  rw [Fl (by omega) (by omega)]
  by_cases c1 : k = i
  ·subst c1; simp
  ·rw [if_neg (by omega), if_neg c1]
   by_cases c2 : k = 0
   ·subst c2; simp
   ·rw [if_neg (by omega), if_neg c2]
 have hm := Q8 h.hp
 refine ⟨fun p _ hne c hc hci => ?_, fun q _ hq => by omega, Sg.sw (by omega) (by omega) hl, fun v' hs hh => ⟨hh, fun a b ha hab hb => ?_, fun k j hk hj hjh => ?_⟩⟩
 ·rw [e c, e p, if_neg (by omega), if_neg (by omega), if_neg (by omega), if_neg hne]
  exact h.hp p (Nat.zero_le _) (by omega) c hc (by omega)
 ·rw [hs.out a (Or.inr ha), hs.out b (Or.inr (by omega))]
  obtain ⟨a', rfl⟩ : ∃ a', a = f + a' := ⟨a - f, by omega⟩
  obtain ⟨b', rfl⟩ : ∃ b', b = f + b' := ⟨b - f, by omega⟩
  rw [e a', e b', if_neg (by omega : ¬ b' = i), if_neg (by omega : ¬ b' = 0)]
  by_cases c1 : a' = i
  ·rw [if_pos c1]
   have := h.ge 0 b' (by omega) (by omega) (by omega)
   simpa using this
  ·rw [if_neg c1, if_neg (by omega)]
   exact h.so (f + a') (f + b') (by omega) hab hb
 ·have h1 : ∀ x, f <= x -> x < f + i -> at0 (sw v f (f + i)) x <= at0 (sw v f (f + i)) (f + j) := fun x hx1 hx2 => by
   obtain ⟨x', rfl⟩ : ∃ x', x = f + x' := ⟨x - f, by omega⟩
   rw [e x', e j, if_neg (by omega : ¬ x' = i)]
   by_cases c1 : j = i
   ·rw [if_pos c1]
    by_cases c2 : x' = 0
    ·rw [if_pos c2]; exact hm i (by omega)
    ·rw [if_neg c2]; exact hm x' (by omega)
   ·rw [if_neg c1, if_neg (by omega : ¬ j = 0)]
    by_cases c2 : x' = 0
    ·rw [if_pos c2]; exact h.ge i j (by omega) (by omega) hjh
    ·rw [if_neg c2]; exact h.ge x' j (by omega) (by omega) hjh
  have := hs.all (P := fun z => z <= at0 (sw v f (f + i)) (f + j)) (by rw [Tu]; omega) h1 (f + k) (by omega) (by omega)
  rwa [hs.out (f + j) (Or.inr (by omega))]
theorem Pop.start {v : List Int} {f hi : Nat} (h : Hq v f 0 hi hi) : Pop v f hi hi := ⟨h, So.small (by omega), fun k j _ h1 h2 => by omega⟩
theorem Pop.done {v : List Int} {f hi : Nat} (h : Pop v f 0 hi) : So v f (f + hi) := h.so
theorem Hq.down {v : List Int} {f lo hi : Nat} (h : Hq v f (lo + 1) hi hi) : Hq v f lo hi lo /\ Hr v f lo hi lo :=
 ⟨fun p hp hne c hc hci => h p (by omega) (by omega) c hc hci, fun q hq1 hq2 => by omega⟩
theorem Hq.none {v : List Int} {f lo hi : Nat} (h : hi <= 2 * lo + 1) : Hq v f lo hi hi := fun p hp _ c hc hci => by omega
def Ins (v : List Int) (a i j : Nat) : Prop := ∀ x y, a <= x -> x < y -> y <= i -> y ≠ j -> at0 v x <= at0 v y
theorem Dd {v : List Int} {a i : Nat} (h : So v a i) : Ins v a i i := fun x y h1 h2 h3 h4 => h x y h1 h2 (by omega)
theorem Kx {v : List Int} {a i j : Nat} (h : Ins v a i j) (ha : a < j) (hj : j <= i) (hi : i < v.length) (hlt : at0 v j <= at0 v (j - 1)) :
 Ins (sw v j (j - 1)) a i (j - 1) /\ Sg v (sw v j (j - 1)) a (i + 1) := by
 have e : ∀ k, at0 (sw v j (j - 1)) k = if k = j - 1 then at0 v j else if k = j then at0 v (j - 1) else at0 v k := fun k => Fl (by omega) (by omega) k
 refine ⟨fun x y h1 h2 h3 h4 => ?_, Sg.sw (by omega) (by omega) (by omega)⟩
 rw [e x, e y, if_neg h4]
 by_cases c1 : y = j
 ·rw [if_pos c1]
  by_cases c2 : x = j - 1
  ·rw [if_pos c2]; exact hlt
  ·rw [if_neg c2, if_neg (by omega)]; exact h x (j - 1) h1 (by omega) (by omega) (by omega)
 ·rw [if_neg c1]
  by_cases c2 : x = j - 1
  ·rw [if_pos c2]; exact h j y (by omega) (by omega) h3 c1
  ·rw [if_neg c2]
   by_cases c3 : x = j
   ·rw [if_pos c3]; exact h (j - 1) y (by omega) (by omega) h3 c1
   ·rw [if_neg c3]; exact h x y h1 h2 h3 c1
theorem EM {v : List Int} {a i j : Nat} (h : Ins v a i j) (hj : j <= i) (he : j <= a \/ at0 v (j - 1) <= at0 v j) : So v a (i + 1) := fun x y h1 h2 h3 => by
 by_cases c : y = j
 ·subst c
  have he' := he.resolve_left (by omega)
  by_cases c1 : x = y - 1
  ·rw [c1]; exact he'
  ·exact Int.le_trans (h x (y - 1) h1 (by omega) (by omega) (by omega)) he'
 ·exact h x y h1 h2 (by omega) c
structure PI (v : List Int) (a b i j : Nat) : Prop where
 lo : ∀ k, a < k -> k < i -> at0 v k <= at0 v a
 up : ∀ k, j < k -> k < b -> at0 v a <= at0 v k
 rg : a < i /\ i <= j + 1 /\ a <= j /\ j < b
theorem PI.start {v : List Int} {a b : Nat} (h : a + 1 < b) : PI v a b (a + 1) (b - 1) := ⟨fun k _ _ => by omega, fun k _ _ => by omega, by omega⟩
theorem PI.inc {v : List Int} {a b i j : Nat} (h : PI v a b i j) (hij : i <= j) (hi : at0 v i <= at0 v a) : PI v a b (i + 1) j :=
 ⟨fun k h1 h2 => by
  by_cases c : k = i
  ·rw [c]; exact hi
  ·exact h.lo k h1 (by omega), h.up, by have := h.rg; omega⟩
theorem PI.dec {v : List Int} {a b i j : Nat} (h : PI v a b i j) (hij : i <= j) (hj : at0 v a <= at0 v j) : PI v a b i (j - 1) :=
 ⟨h.lo, fun k h1 h2 => by
  by_cases c : k = j
  ·rw [c]; exact hj
  ·exact h.up k (by omega) h2, by have := h.rg; omega⟩
theorem PI.swap {v : List Int} {a b i j : Nat} (h : PI v a b i j) (hij : i < j) (hb : b <= v.length) (hi : at0 v a <= at0 v i) (hj : at0 v j <= at0 v a) : PI (sw v i j) a b (i + 1) (j - 1) /\ Sg v (sw v i j) (a + 1) b := by
 have hr := h.rg
 have e : ∀ k, at0 (sw v i j) k = if k = j then at0 v i else if k = i then at0 v j else at0 v k := fun k => Fl (by omega) (by omega) k
 have ea : at0 (sw v i j) a = at0 v a := by rw [e, if_neg (by omega), if_neg (by omega)]
 refine ⟨⟨fun k h1 h2 => ?_, fun k h1 h2 => ?_, by omega⟩, Sg.sw (by omega) (by omega) hb⟩
 ·rw [ea, e k, if_neg (by omega)]
  by_cases c : k = i
  ·rw [if_pos c]; exact hj
  ·rw [if_neg c]; exact h.lo k h1 (by omega)
 ·rw [ea, e k]
  by_cases c : k = j
  ·rw [if_pos c]; exact hi
  ·rw [if_neg c, if_neg (by omega)]; exact h.up k (by omega) h2
structure Pt (v : List Int) (a b m : Nat) : Prop where
 lo : ∀ k, a <= k -> k < m -> at0 v k <= at0 v m
 up : ∀ k, m < k -> k < b -> at0 v m <= at0 v k
 rg : a <= m /\ m < b
theorem PI.done {v : List Int} {a b j : Nat} (h : PI v a b (j + 1) j) (hb : b <= v.length) : Pt (sw v j a) a b j /\ Sg v (sw v j a) a b := by
 have hr := h.rg
 have e : ∀ k, at0 (sw v j a) k = if k = a then at0 v j else if k = j then at0 v a else at0 v k := fun k => Fl (by omega) (by omega) k
 have ej : at0 (sw v j a) j = at0 v a := by
  rw [e]
  by_cases c : j = a
  ·rw [if_pos c, c]
  ·rw [if_neg c, if_pos rfl]
 refine ⟨⟨fun k h1 h2 => ?_, fun k h1 h2 => ?_, by omega⟩, Sg.sw (by omega) (by omega) hb⟩
 ·rw [ej, e k]
  by_cases c : k = a
  ·rw [if_pos c]; exact h.lo j (by omega) (by omega)
  ·rw [if_neg c, if_neg (by omega)]; exact h.lo k (by omega) (by omega)
 ·rw [ej, e k, if_neg (by omega), if_neg (by omega)]; exact h.up k h1 h2
def Lb (v : List Int) (a b : Nat) : Prop := 0 < a -> ∀ k, a <= k -> k < b -> at0 v (a - 1) <= at0 v k
theorem Lb.sg {v v' : List Int} {a b : Nat} (h : Lb v a b) (hs : Sg v v' a b) (hb : b <= v.length) : Lb v' a b := fun h0 k h1 h2 => by
 rw [hs.out (a - 1) (Or.inl (by omega))]
 exact hs.all hb (P := fun z => at0 v (a - 1) <= z) (h h0) k h1 h2
def Kk (v : List Int) (a b c d : Nat) : Prop := ∀ v', Sg v v' c d -> So v' c d -> So v' a b
theorem Kk.start (v : List Int) (a b : Nat) : Kk v a b a b := fun _ _ h => h
theorem So.join2 {v : List Int} {a m b : Nat} (h1 : So v a m) (h2 : So v m b) (h3 : ∀ i j, a <= i -> i < m -> m <= j -> j < b -> at0 v i <= at0 v j) : So v a b := fun i j hi hij hj => by
 by_cases c1 : j < m
 ·exact h1 i j hi hij c1
 ·by_cases c2 : i < m
  ·exact h3 i j hi c2 (by omega) hj
  ·exact h2 i j (by omega) hij hj
theorem Kk.left {v v' : List Int} {a b c d m : Nat} (h : Kk v a b c d) (hp : Pt v c d m) (hd : d <= v.length) (hs : Sg v v' c m) (ho : So v' c m) : Kk v' a b (m + 1) d /\ Lb v' (m + 1) d /\ Sg v v' c d := by
 have hr := hp.rg
 have hl := hs.len
 have hm : at0 v' m = at0 v m := hs.out m (Or.inr (Nat.le_refl _))
 have lo : ∀ k, c <= k -> k < m -> at0 v' k <= at0 v m := hs.all (P := fun z => z <= at0 v m) (by omega) hp.lo
 have up : ∀ k, m + 1 <= k -> k < d -> at0 v m <= at0 v' k := fun k h1 h2 => by rw [hs.out k (Or.inr (by omega))]; exact hp.up k (by omega) h2
 refine ⟨fun u hu hso => h u ((hs.mono (Nat.le_refl _) (by omega)).trans (hu.mono (by omega) (Nat.le_refl _))) ?_, fun _ k h1 h2 => ?_, hs.mono (Nat.le_refl _) (by omega)⟩
 ·have um : at0 u m = at0 v m := (hu.out m (Or.inl (by omega))).trans hm
  refine So.join (m := m) (ho.out hu (Or.inl (by omega))) hso (fun i h1 h2 => ?_) fun i h1 h2 => ?_
  ·rw [um, hu.out i (Or.inl (by omega))]; exact lo i h1 h2
  ·rw [um]
   exact hu.all (P := fun z => at0 v m <= z) (by omega) up i (by omega) h2
 ·rw [show m + 1 - 1 = m by omega, hm]; exact up k h1 h2
theorem Kk.right {v v' : List Int} {a b c d m : Nat} (h : Kk v a b c d) (hp : Pt v c d m) (hd : d <= v.length) (hs : Sg v v' (m + 1) d) (ho : So v' (m + 1) d) : Kk v' a b c m /\ Sg v v' c d := by
 have hr := hp.rg
 have hl := hs.len
 have hm : at0 v' m = at0 v m := hs.out m (Or.inl (by omega))
 have up : ∀ k, m + 1 <= k -> k < d -> at0 v m <= at0 v' k := hs.all (P := fun z => at0 v m <= z) hd fun k h1 h2 => hp.up k (by omega) h2
 have lo : ∀ k, c <= k -> k < m -> at0 v' k <= at0 v m := fun k h1 h2 => by rw [hs.out k (Or.inl (by omega))]; exact hp.lo k h1 h2
 refine ⟨fun u hu hso => h u ((hs.mono (by omega) (Nat.le_refl _)).trans (hu.mono (Nat.le_refl _) (by omega))) ?_, hs.mono (by omega) (Nat.le_refl _)⟩
 have um : at0 u m = at0 v m := (hu.out m (Or.inr (Nat.le_refl _))).trans hm
 refine So.join (m := m) hso (ho.out hu (Or.inr (by omega))) (fun i h1 h2 => ?_) fun i h1 h2 => ?_
 ·rw [um]
  exact hu.all (P := fun z => z <= at0 v m) (by omega) lo i h1 h2
 ·rw [um, hu.out i (Or.inr (by omega))]; exact up i (by omega) h2
theorem Kk.eq {v : List Int} {a b c d m : Nat} {p : Int} (h : Kk v a b c d) (h1 : ∀ k, c <= k -> k < m -> at0 v k = p) (h2 : ∀ k, m <= k -> k < d -> p <= at0 v k) (hr : c < m /\ m <= d) (hd : d <= v.length) : Kk v a b m d /\ Lb v m d := by
 refine ⟨fun u hu hso => h u (hu.mono (by omega) (Nat.le_refl _)) ?_, fun _ k hk1 hk2 => ?_⟩
 ·have e1 : ∀ k, c <= k -> k < m -> at0 u k = p := fun k k1 k2 => (hu.out k (Or.inl k2)).trans (h1 k k1 k2)
  have e2 : ∀ k, m <= k -> k < d -> p <= at0 u k := hu.all (P := fun z => p <= z) hd h2
  refine So.join2 (m := m) (fun i j i1 i2 i3 => by rw [e1 i i1 (by omega), e1 j (by omega) i3]; exact Int.le_refl _) hso fun i j i1 i2 i3 i4 => ?_
  rw [e1 i i1 i2]; exact e2 j i3 i4
 ·rw [h1 (m - 1) (by omega) (by omega)]; exact h2 k hk1 hk2
noncomputable def vl (c : Int) : List Int := (dc c).map fun r => r.headD 0
def RO (k : K) (c : Int) : Prop := ∀ r ∈ dc c, fits [k] r
theorem Au (c : Int) : (vl c).length = (dc c).length := List.length_map ..
theorem M6 (r : List Int) : r.headD 0 = r.getD 0 0 := by cases r <;> rfl
theorem Ai (c : Int) (i : Nat) : ((dc c).getD i []).getD 0 0 = at0 (vl c) i := by
 simp only [vl, at0, List.getD_eq_getElem?_getD, List.getElem?_map]
 cases h : (dc c)[i]? with
 | none => rfl
 | some r => simp only [Option.map_some, Option.getD_some]; rw [M6, List.getD_eq_getElem?_getD]
theorem Ru (c x : Int) (i : Nat) : vl (cd ((dc c).set i (splR ((dc c).getD i []) 0 [x]))) = (vl c).set i x := by
 unfold vl
 rw [Ab, List.map_set]
 congr 1
theorem RO.row {k : K} {c : Int} (h : RO k c) {i : Nat} (hi : i < (dc c).length) : ∃ z, (dc c).getD i [] = [z] /\ k.norm z = z := by
 have := h _ (List.getElem_mem hi)
 match hr : (dc c)[i], this with
 | [z], hz => exact ⟨z, by rw [List.getD_eq_getElem?_getD, List.getElem?_eq_getElem hi, hr]; rfl, hz.1⟩
theorem RO.st {k : K} {c x : Int} {i : Nat} (h : RO k c) (hx : k.norm x = x) (hi : i < (dc c).length) : RO k (cd ((dc c).set i (splR ((dc c).getD i []) 0 [x]))) := by
 intro r hr
 rw [Ab] at hr
 rcases List.mem_or_eq_of_mem_set hr with hr | rfl
 ·exact h r hr
 ·obtain ⟨z, e, _⟩ := h.row hi
  rw [e]
  exact ⟨hx, trivial⟩
theorem RO.ld {k : K} {c : Int} {i : Nat} (h : RO k c) (hi : i < (dc c).length) : k.norm (at0 (vl c) i) = at0 (vl c) i := by
 obtain ⟨z, e, hz⟩ := h.row hi
 rw [<- Ai, e]; exact hz
theorem vl_sw (c x y : Int) (i j : Nat) (hx : x = at0 (vl c) i) (hy : y = at0 (vl c) j) :
 vl (cd ((dc (cd ((dc c).set i (splR ((dc c).getD i []) 0 [y])))).set j (splR ((dc (cd ((dc c).set i (splR ((dc c).getD i []) 0 [y])))).getD j []) 0 [x]))) = sw (vl c) i j := by
 rw [Ru, Ru, hx, hy]; rfl
theorem RO.sw {k : K} {c x y : Int} {i j : Nat} (h : RO k c) (hi : i < (dc c).length) (hj : j < (dc c).length) (hx : k.norm x = x) (hy : k.norm y = y) :
 RO k (cd ((dc (cd ((dc c).set i (splR ((dc c).getD i []) 0 [y])))).set j (splR ((dc (cd ((dc c).set i (splR ((dc c).getD i []) 0 [y])))).getD j []) 0 [x]))) :=
 (h.st hy hi).st hx (by rw [Ab, List.length_set]; exact hj)
theorem RO.rows {k : K} {c : Int} (h : RO k c) : dc c = (vl c).map fun z => [z] := by
 unfold vl
 rw [List.map_map]
 conv => lhs; rw [<- List.map_id (dc c)]
 refine List.map_congr_left fun r hr => ?_
 match r, h r hr with
 | [z], _ => rfl
end Go.Proofs.YtgpflpbldeflhaaDoor.Ew.Sr
namespace Go.Proofs.YtgpflpbldeflhaaDoor.Ew.Sr
open Go Go.RowKit
noncomputable section
def kU : K := .i .u32
def swc (c : Int) (i j : Nat) : Int :=
 cd (((dc c).set i (splR ((dc c).getD i []) 0 [at0 (vl c) j])).set j (splR (((dc c).set i (splR ((dc c).getD i []) 0 [at0 (vl c) j])).getD j []) 0 [at0 (vl c) i]))
theorem Ap (c : Int) (i j : Nat) : cd (((dc c).set i (splR ((dc c).getD i []) 0 [at0 (vl c) j])).set j (splR (((dc c).set i (splR ((dc c).getD i []) 0 [at0 (vl c) j])).getD j []) 0 [at0 (vl c) i])) = swc c i j := rfl
theorem CH (c : Int) (i j : Nat) : vl (swc c i j) = sw (vl c) i j := by
 have := vl_sw c (at0 (vl c) i) (at0 (vl c) j) i j rfl rfl
 simp only [Ab] at this
 exact this
theorem RO.w {c : Int} (h : RO kU c) (i : Nat) : IntKind.u32.wrap (at0 (vl c) i) = at0 (vl c) i := by
 by_cases hi : i < (dc c).length
 ·exact h.ld hi
 ·have : at0 (vl c) i = 0 := by
   unfold at0
   rw [List.getD_eq_getElem?_getD, List.getElem?_eq_none (by rw [Au]; omega)]; rfl
  rw [this]; rfl
theorem RO.swc {c : Int} (h : RO kU c) {i j : Nat} (hi : i < (dc c).length) (hj : j < (dc c).length) : RO kU (swc c i j) := by
 have := h.sw (x := at0 (vl c) i) (y := at0 (vl c) j) hi hj (h.w i) (h.w j)
 simp only [Ab] at this
 exact this
theorem AX (c : Int) (i j : Nat) : (dc (swc c i j)).length = (dc c).length := by
 unfold Sr.swc; rw [Ab, List.length_set, List.length_set]
theorem tb (p : Prop) [Decidable p] : (i2b (K.b.norm (b2i (decide p))) = true) = p := by
 by_cases h : p
 ·rw [decide_eq_true h]; exact propext ⟨fun _ => h, fun _ => rfl⟩
 ·rw [decide_eq_false h]; exact propext ⟨fun h' => absurd h' (by decide), fun h' => absurd h' h⟩
def LN (c : Int) : Prop := RO kU c /\ ((dc c).length : Int) <= 1000000
def St (c c' : Int) (a b : Int) : Prop := RO kU c' /\ Sg (vl c) (vl c') a.toNat b.toNat
theorem St.len {c c' a b : Int} (h : St c c' a b) : (dc c').length = (dc c).length := by
 have := h.2.len; rwa [Au, Au] at this
theorem St.refl {c : Int} (h : RO kU c) (a b : Int) : St c c a b := ⟨h, .refl _ _ _⟩
theorem St.trans {c d e a b : Int} (h : St c d a b) (h' : St d e a b) : St c e a b := ⟨h'.1, h.2.trans h'.2⟩
theorem St.mono {c c' a b x y : Int} (h : St c c' a b) (h1 : x <= a) (h2 : b <= y) : St c c' x y := ⟨h.1, h.2.mono (by omega) (by omega)⟩
theorem St.ln {c c' a b : Int} (h : St c c' a b) (hl : LN c) : LN c' := ⟨h.1, by rw [h.len]; exact hl.2⟩
theorem St.swc {c a b i j : Int} (h : RO kU c) (ha : 0 <= a) (hi : a <= i /\ i < b) (hj : a <= j /\ j < b) (hb : b <= ((dc c).length : Int)) : St c (swc c i.toNat j.toNat) a b :=
 ⟨h.swc (by omega) (by omega), by rw [CH]; exact Sg.sw (by omega) (by omega) (by rw [Au]; omega)⟩
end
end Go.Proofs.YtgpflpbldeflhaaDoor.Ew.Sr
set_option maxHeartbeats 1000000
namespace Go.Proofs.YtgpflpbldeflhaaDoor.Ew.Sr
open Go Go.RowKit
noncomputable section
def G0 : Glob := fun b off =>
 if b = 0 then (([1, 2, 4294967295, 4294967295, 65535, 65535, 63] : List Int)[off]?).map fun z => .sc (.lit (.i .u32) z)
 else if b = 1 then (([1, 6, 17] : List Int)[off]?).map fun z => .sc (.lit (.i .u8) z)
 else none
theorem mixed : Tryd.prog.follows .mixedOrders = true := by kernel_rfl
abbrev EPz (e : Ent) (Q : Post) : Prop := EntryOK Tryd.prog G0 e /\ PostOK e Q
abbrev IPz (f : Nat) (p : List Bool) (e : LEnt) (Q : Post) : Prop := AL Tryd.prog G0 f p e /\ PostOK e.ent Q
def i64 : Sh := .sc kJ
def u32 : Sh := .sc (.i .u32)
def uR : Row := .ofKs [.i .u32]
def Dt : Sh := .lsn 26 uR
def dO : Ob := { j := 0, ty := 26, tl := some (Tl.lst uR), cs := [.sc .x] }
def z0 : Nat -> List Int -> Int := fun _ _ => 0
def T0 : List Int -> Prop := fun _ => True
def e107 : Ent := ⟨107, 107, [u32], [], [], .lt .b 0, z0, T0⟩
def e97 : Ent := ⟨97, 97, [u32, u32], [], [], .sc .b, fun _ xs => b2i (decide (env xs 0 < env xs 1)), T0⟩
def cN : Ctx := ⟨[], []⟩
def cL : Ctx := ⟨[e107], []⟩
def OX : E := (.lit .b 1)
def Tv : List E := []
theorem Tw : evE Tryd.prog G0 (A5 cN.fs) (ltOf cN.ls) 40 10 e107 = some (OX, Tv) := by kernel_rfl
def M7 : E := (aB 107 1000000 [(.var (.i .u32) 0)])
def Rv : List E := [(.cmp .lss (.var (.i .u32) 0) (.var (.i .u32) 1))]
theorem ev_97 : evE Tryd.prog G0 (A5 cL.fs) (ltOf cL.ls) 40 10 e97 = some (M7, Rv) := by kernel_rfl
def c97 : Ctx := ⟨[e97], []⟩
def pIi : List Bool := [true,false,false,true,false,false,true,false]
def preIi (xs : List Int) : Prop := LN (env xs 0) /\ 0 <= env xs 1 /\ env xs 1 <= env xs 2 /\ env xs 2 < ((dc (env xs 0)).length : Int) /\ ∃ i, env xs 2 <= i /\ i < ((dc (env xs 0)).length : Int) /\ Ins (vl (env xs 0)) (env xs 1).toNat i.toNat (env xs 2).toNat
def OY (xs ys : List Int) : Prop := ∀ i, env xs 2 <= i -> i < ((dc (env xs 0)).length : Int) -> Ins (vl (env xs 0)) (env xs 1).toNat i.toNat (env xs 2).toNat -> St (env xs 0) (env ys 0) (env xs 1) (i + 1) /\ So (vl (env ys 0)) (env xs 1).toNat (i + 1).toNat
def muIi (xs : List Int) : Nat := (env xs 2 - env xs 1).toNat
def lbIi : LEnt := ⟨⟨9191, 999999, [Dt, i64, i64], [dO], [], .tup [], z0, preIi⟩, [0, 1, 7], [], [7] ++ (List.range 33).map (· + 16), [.ex 2], 49, []⟩
def leIi : LEnt := lbIi.fw (fnM Tryd.prog G0 91 pIi lbIi OY)
theorem ok107 : EntryOK Tryd.prog G0 e107 := Ctx.OK.nil.entryP (c := cN) mixed Tw _ rfl _ rfl fun xs hf hp => by
 match xs, hf with
 | [n], hf =>
   obtain ⟨h0, _⟩ := hf
   refine ⟨?_, trivial⟩
   simp only [OX, ewY, seval]
   decide
theorem cLok : cL.OK Tryd.prog G0 := Ctx.OK.nil.addF ok107 rfl
theorem ok97 : EntryOK Tryd.prog G0 e97 := cLok.entryP mixed ev_97 _ rfl _ rfl fun xs hf hp => by
 obtain ⟨l, hl, hF⟩ := Ic (l0 := cL.l)
 show M7.tt cL.l.F _ = true /\ JD e97.fn _ cL.l.F _ _ _ _
 rw [hl]
 have F107 := FC (k := 107) rfl (hF e107 (by rfl) (by decide))
 have hSS := F107
 match xs, hf with
 | [x, y], hf =>
   obtain ⟨h0, h1, _⟩ := hf
   refine ⟨?_, ?_, trivial⟩
   ·simp only [M7, ewZ, reduceCtorEq, seval, hSS, h0, h1]
    exact trivial
   ·simp only [Rv, e97, ewZ, reduceCtorEq, seval, hSS, h0, h1]
theorem l97 : (∀ x y, e97.fn 0 [x, y] = b2i (decide (x < y))) /\ ∀ x y, e97.pre [x, y] = True := ⟨fun _ _ => rfl, fun _ _ => rfl⟩
theorem Co : c97.OK Tryd.prog G0 := Ctx.OK.nil.addF ok97 rfl
theorem okIi : IPz 91 pIi leIi OY := by
 refine Co.loopK muIi false 9191 [(97, e97)] ⟨_, _, _, Tryd.func91, rfl, rfl⟩ ?_
 go_invoke
 refine enK rfl ?_
 intro φ l ρ D a ha j hj hp hφ hSS _
 obtain ⟨p1, p3, p4, p5, i, p6, p7, p8⟩ := hp
 replace p1 : LN D := p1
 have p2 := p1.2
 simp only [ewY, seval] at p2 p3 p4 p5 p6 p7 p8
 by_cases hj : j > a
 ·by_cases hl : at0 (vl D) j.toNat < at0 (vl D) (j - 1).toNat
  ·have yl : St D (swc D j.toNat (j - 1).toNat) a (i + 1) := St.swc p1.1 p3 (by omega) (by omega) (by omega)
   have e1 : (j - 1).toNat = j.toNat - 1 := by omega
   have e2 : (i + 1).toNat = i.toNat + 1 := by omega
   have y1 := fun k (h1 : j <= k) (h2 : k < ((dc D).length : Int)) (h3 : Ins (vl D) a.toNat k.toNat j.toNat) => Kx h3 (by omega) (by omega) (by rw [Au]; omega) (by rw [<- e1]; omega)
   have yp : lbIi.ent.pre [swc D j.toNat (j - 1).toNat, a, j - 1] := ⟨yl.ln p1, p3, by show a <= j - 1; omega, by show j - 1 < ((dc (swc D j.toNat (j - 1).toNat)).length : Int); rw [AX]; omega, i, by show j - 1 <= i; omega, by show i < ((dc (swc D j.toNat (j - 1).toNat)).length : Int); rw [AX]; omega, by
    show Ins (vl (swc D j.toNat (j - 1).toNat)) a.toNat i.toNat (j - 1).toNat
    rw [CH, e1]; exact (y1 i p6 p7 p8).1⟩
   have ym : muIi [swc D j.toNat (j - 1).toNat, a, j - 1] < muIi [D, a, j] := by show (j - 1 - a).toNat < (j - a).toNat; omega
   have ih := hφ [swc D j.toNat (j - 1).toNat, a, j - 1] ⟨rfl, ha, i64w (by omega) (by omega), trivial⟩ yp ym
   obtain ⟨w, hw⟩ : ∃ w, K.x.norm (φ 0 [swc D j.toNat (j - 1).toNat, a, j - 1]) = w := ⟨_, rfl⟩
   have ih : ∀ k, j - 1 <= k -> k < ((dc (swc D j.toNat (j - 1).toNat)).length : Int) -> Ins (vl (swc D j.toNat (j - 1).toNat)) a.toNat k.toNat (j - 1).toNat -> St (swc D j.toNat (j - 1).toNat) w a (k + 1) /\ So (vl w) a.toNat (k + 1).toNat := by
    rw [<- hw]; exact ih
   rw [AX, CH, e1] at ih
   have yL : (dc w).length = (dc D).length := (ih i (by omega) p7 (y1 i p6 p7 p8).1).1.len.trans (AX ..)
   refine ⟨?_, ?_⟩
   ·simp (disch := omega) only [ewZ, reduceCtorEq, seval, hSS, hj, Ai, p1.1.w, l97.1, l97.2, tb, Ap, hl, hw, yL]
    exact ⟨by omega, yp, ym⟩
   ·simp (disch := omega) only [ewZ, reduceCtorEq, seval, hSS, hj, Ai, p1.1.w, l97.1, l97.2, tb, Ap, hl, hw]
    intro k (k1 : j <= k) (k2 : k < ((dc D).length : Int)) (k3 : Ins (vl D) a.toNat k.toNat j.toNat)
    show St D w a (k + 1) /\ So (vl w) a.toNat (k + 1).toNat
    have z0 : St D (swc D j.toNat (j - 1).toNat) a (k + 1) := St.swc p1.1 p3 (by omega) (by omega) (by omega)
    rw [e1] at z0
    have z1 := ih k (by omega) k2 (y1 k k1 k2 k3).1
    exact ⟨z0.trans z1.1, z1.2⟩
  ·refine ⟨?_, ?_⟩ <;> simp (disch := omega) only [ewZ, reduceCtorEq, seval, hSS, hj, Ai, p1.1.w, l97.1, l97.2, tb, Ap, hl]
   ·omega
   ·intro k (k1 : j <= k) (k2 : k < ((dc D).length : Int)) (k3 : Ins (vl D) a.toNat k.toNat j.toNat)
    refine ⟨St.refl p1.1 _ _, ?_⟩
    have := EM k3 (by omega) (Or.inr (by rw [show j.toNat - 1 = (j - 1).toNat by omega]; omega))
    rwa [show (k + 1).toNat = k.toNat + 1 by omega]
 ·refine ⟨?_, ?_⟩ <;> simp (disch := omega) only [ewZ, reduceCtorEq, seval, hSS, hj]
  ·intro k (k1 : j <= k) (k2 : k < ((dc D).length : Int)) (k3 : Ins (vl D) a.toNat k.toNat j.toNat)
   refine ⟨St.refl p1.1 _ _, ?_⟩
   show So (vl D) a.toNat (k + 1).toNat
   rw [show (k + 1).toNat = k.toNat + 1 by omega]
   exact EM k3 (by omega) (Or.inl (by omega))
end
end Go.Proofs.YtgpflpbldeflhaaDoor.Ew.Sr
set_option maxHeartbeats 8000000
namespace Go.Proofs.YtgpflpbldeflhaaDoor.Ew.Sr
open Go Go.RowKit
noncomputable section
def cIi : Ctx := ⟨[], [(91, pIi, leIi)]⟩
def pLO : List Bool := [true,false]
def In3 (D a b : Int) : Prop := LN D /\ 0 <= a /\ a <= b /\ b <= ((dc D).length : Int)
def preLO (xs : List Int) : Prop := In3 (env xs 0) (env xs 1) (env xs 2) /\ env xs 1 < env xs 3 /\ (env xs 3 <= env xs 2 \/ env xs 3 = env xs 1 + 1) /\ So (vl (env xs 0)) (env xs 1).toNat (env xs 3).toNat
def Bq (xs ys : List Int) : Prop := St (env xs 0) (env ys 0) (env xs 1) (env xs 2) /\ So (vl (env ys 0)) (env xs 1).toNat (env xs 2).toNat
def muLO (xs : List Int) : Nat := (env xs 2 - env xs 3).toNat
def lbLO : LEnt := ⟨⟨9091, 999999, [Dt, i64, i64, i64], [dO], [], .tup [], z0, preLO⟩, [0, 1, 2, 6], [], [6, 7] ++ (List.range 39).map (· + 10), [.ex 0], 49, []⟩
def leLO : LEnt := lbLO.fw (fnM Tryd.prog G0 91 pLO lbLO Bq)
def cLO : Ctx := ⟨[], [(91, pLO, leLO)]⟩
def pre91 (xs : List Int) : Prop := In3 (env xs 0) (env xs 1) (env xs 2)
def b91 : Ent := ⟨91, 91, [Dt, i64, i64], [dO], [], .tup [], z0, pre91⟩
def e91 : Ent := b91.fw (fnG Tryd.prog G0 b91 Bq)
def preSd (xs : List Int) : Prop := LN (env xs 0) /\ 0 <= env xs 2 /\ 0 <= env xs 3 /\ env xs 3 <= env xs 1 /\ env xs 2 + env xs 1 <= ((dc (env xs 0)).length : Int)
def GD (D V f hi r : Int) : Prop := St D V f (f + hi) /\ ∀ lo : Nat, lo <= r.toNat -> Hq (vl D) f.toNat lo hi.toNat r.toNat -> Hr (vl D) f.toNat lo hi.toNat r.toNat -> St D V (f + lo) (f + hi) /\ Hq (vl V) f.toNat lo hi.toNat hi.toNat
def OZ (xs ys : List Int) : Prop := GD (env xs 0) (env ys 0) (env xs 2) (env xs 1) (env xs 3)
def muSd (xs : List Int) : Nat := (env xs 1 - env xs 3).toNat
def lbSd : LEnt := ⟨⟨9102, 999999, [Dt, i64, i64, i64], [dO], [], .tup [.sc .b], z0, preSd⟩, [0, 2, 3, 8], [], [8, 9] ++ (List.range 65).map (· + 11), [.ex 0, .ret], 76, []⟩
def leSd : LEnt := lbSd.fw (fnM Tryd.prog G0 102 pLO lbSd OZ)
def cSd : Ctx := ⟨[], [(102, pLO, leSd)]⟩
def pre102 (xs : List Int) : Prop := LN (env xs 0) /\ 0 <= env xs 3 /\ 0 <= env xs 1 /\ env xs 1 <= env xs 2 /\ env xs 3 + env xs 2 <= ((dc (env xs 0)).length : Int)
def LI (xs ys : List Int) : Prop := GD (env xs 0) (env ys 0) (env xs 3) (env xs 2) (env xs 1)
def b102 : Ent := ⟨102, 102, [Dt, i64, i64, i64], [dO], [], .tup [], z0, pre102⟩
def e102 : Ent := b102.fw (fnG Tryd.prog G0 b102 LI)
def c102 : Ctx := ⟨[e102], []⟩
def pH1 : List Bool := [true,true,true,false,true,false]
def pH2 : List Bool := [true,true,true,true,true,false]
def preH1 (xs : List Int) : Prop := LN (env xs 0) /\ 0 <= env xs 1 /\ 0 <= env xs 2 /\ env xs 1 + env xs 2 <= ((dc (env xs 0)).length : Int) /\ -1 <= env xs 3 /\ env xs 3 <= env xs 2 /\ Hq (vl (env xs 0)) (env xs 1).toNat (env xs 3 + 1).toNat (env xs 2).toNat (env xs 2).toNat
def O0 (xs ys : List Int) : Prop := St (env xs 0) (env ys 0) (env xs 1) (env xs 1 + env xs 2) /\ Hq (vl (env ys 0)) (env xs 1).toNat 0 (env xs 2).toNat (env xs 2).toNat
def muH1 (xs : List Int) : Nat := (env xs 3 + 1).toNat
def lbH1 : LEnt := ⟨⟨9092, 999999, [Dt, i64, i64, i64], [dO], [], .tup [], z0, preH1⟩, [0, 6, 8, 9], [], [9] ++ (List.range 9).map (· + 18), [.ex 0], 56, []⟩
def leH1 : LEnt := lbH1.fw (fnM Tryd.prog G0 92 pH1 lbH1 O0)
def preH2 (xs : List Int) : Prop := LN (env xs 0) /\ 0 <= env xs 1 /\ -1 <= env xs 2 /\ ∃ hi : Int, env xs 2 < hi /\ env xs 1 + hi <= ((dc (env xs 0)).length : Int) /\ Pop (vl (env xs 0)) (env xs 1).toNat (env xs 2 + 1).toNat hi.toNat
def O1 (xs ys : List Int) : Prop := ∀ hi : Int, env xs 2 < hi -> env xs 1 + hi <= ((dc (env xs 0)).length : Int) -> Pop (vl (env xs 0)) (env xs 1).toNat (env xs 2 + 1).toNat hi.toNat -> St (env xs 0) (env ys 0) (env xs 1) (env xs 1 + hi) /\ Pop (vl (env ys 0)) (env xs 1).toNat 0 hi.toNat
def muH2 (xs : List Int) : Nat := (env xs 2 + 1).toNat
def lbH2 : LEnt := ⟨⟨9192, 999999, [Dt, i64, .lt kJ 0, i64], [dO], [], .tup [], z0, preH2⟩, [0, 6, 7, 10], [], [10] ++ (List.range 27).map (· + 29), [.ex 2], 56, []⟩
def leH2 : LEnt := lbH2.fw (fnM Tryd.prog G0 92 pH2 lbH2 O1)
def cH : Ctx := ⟨[], [(92, pH1, leH1), (92, pH2, leH2)]⟩
def b92 : Ent := ⟨92, 92, [Dt, i64, i64], [dO], [], .tup [], z0, pre91⟩
def e92 : Ent := b92.fw (fnG Tryd.prog G0 b92 Bq)
def pRv : List Bool := [true,true,false]
def preRv (xs : List Int) : Prop := LN (env xs 0) /\ 0 <= env xs 1 /\ -1 <= env xs 2 /\ env xs 2 < ((dc (env xs 0)).length : Int) /\ env xs 1 <= ((dc (env xs 0)).length : Int)
def O2 (xs ys : List Int) : Prop := St (env xs 0) (env ys 0) (env xs 1) (env xs 2 + 1)
def muRv (xs : List Int) : Nat := (env xs 2 - env xs 1).toNat
def lbRv : LEnt := ⟨⟨9095, 999999, [Dt, i64, i64], [dO], [], .tup [], z0, preRv⟩, [0, 6, 7], [], [6, 7] ++ (List.range 21).map (· + 11), [.ex 0], 32, []⟩
def leRv : LEnt := lbRv.fw (fnM Tryd.prog G0 95 pRv lbRv O2)
def cRv : Ctx := ⟨[], [(95, pRv, leRv)]⟩
def O3 (xs ys : List Int) : Prop := St (env xs 0) (env ys 0) (env xs 1) (env xs 2)
def b95 : Ent := ⟨95, 95, [Dt, i64, i64], [dO], [], .tup [], z0, pre91⟩
def e95 : Ent := b95.fw (fnG Tryd.prog G0 b95 O3)
theorem cIiok : cIi.OK Tryd.prog G0 := ⟨rfl, mF trivial, mF ⟨okIi.1, trivial⟩⟩
theorem okLO : IPz 91 pLO leLO Bq := by
 refine cIiok.loopK muLO false 9091 [(9191, leIi.ent)] ⟨_, _, _, Tryd.func91, rfl, rfl⟩ ?_
 go_invoke
 refine enK rfl ?_
 intro φ l ρ D a ha b hb i hi hp hφ hSS _
 obtain ⟨⟨p1, p2, p3, p4⟩, p5, p6, p7⟩ := hp
 replace p1 : LN D := p1
 replace p7 : So (vl D) a.toNat i.toNat := p7
 have p0 := p1.2
 have vi := hi
 simp only [ewY, seval] at p2 p3 p4 p5 p6
 by_cases c : i < b
 ·have y1 : leIi.ent.pre [D, a, i] := ⟨p1, p2, by show a <= i; omega, by show i < ((dc D).length : Int); omega, i, Int.le_refl _, by show i < ((dc D).length : Int); omega, Dd p7⟩
  have z := okIi.2 [D, a, i] ⟨rfl, ha, hi, trivial⟩ y1
  obtain ⟨w, hw⟩ : ∃ w, leIi.ent.fn 0 [D, a, i] = w := ⟨_, rfl⟩
  have z : St D w a (i + 1) /\ So (vl w) a.toNat (i + 1).toNat := by rw [<- hw]; exact z i (Int.le_refl _) (by show i < ((dc D).length : Int); omega) (Dd p7)
  have zl := z.1.len
  have w1 : IntKind.i64.wrap (i + 1) = i + 1 := i64w (by omega) (by omega)
  have y2 : lbLO.ent.pre [w, a, b, i + 1] := ⟨⟨z.1.ln p1, p2, p3, by show b <= ((dc w).length : Int); omega⟩, by show a < i + 1; omega, Or.inl (by show i + 1 <= b; omega), z.2⟩
  have ym : muLO [w, a, b, i + 1] < muLO [D, a, b, i] := by show (b - (i + 1)).toNat < (b - i).toNat; omega
  have ih := hφ [w, a, b, i + 1] ⟨rfl, ha, hb, w1, trivial⟩ y2 ym
  obtain ⟨u, hu⟩ : ∃ u, φ 0 [w, a, b, i + 1] = u := ⟨_, rfl⟩
  have ih : St w u a b /\ So (vl u) a.toNat b.toNat := by rw [<- hu]; exact ih
  have ul := ih.1.len
  refine ⟨?_, ?_⟩
  ·simp (disch := omega) only [ewZ, reduceCtorEq, seval, hSS, c, hw, w1, hu, zl, ul, y1]
   exact ⟨y2, ym⟩
  ·simp (disch := omega) only [ewZ, reduceCtorEq, seval, hSS, c, hw, w1, hu]
   show St D u a b /\ So (vl u) a.toNat b.toNat
   exact ⟨(z.1.mono (Int.le_refl _) (by omega)).trans ih.1, ih.2⟩
 ·refine ⟨?_, ?_⟩ <;> simp (disch := omega) only [ewZ, reduceCtorEq, seval, hSS, c]
  ·refine ⟨St.refl p1.1 _ _, ?_⟩
   show So (vl D) a.toNat b.toNat
   by_cases e : i <= b
   ·rwa [show b = i by omega]
   ·exact So.small (by omega)
theorem cLOok : cLO.OK Tryd.prog G0 := ⟨rfl, mF trivial, mF ⟨okLO.1, trivial⟩⟩
theorem ok91 : EPz e91 Bq := by
 refine cLOok.entryK false [(9091, leLO.ent)] ?_
 go_invoke
 refine enK rfl ?_
 intro l ρ D a ha b hb hp hSS _
 obtain ⟨p1, p2, p3, p4⟩ := hp
 replace p1 : LN D := p1
 have p0 := p1.2
 simp only [ewY, seval] at p2 p3 p4
 have w1 : IntKind.i64.wrap (a + 1) = a + 1 := i64w (by omega) (by omega)
 have y1 : leLO.ent.pre [D, a, b, a + 1] := ⟨⟨p1, p2, p3, p4⟩, by show a < a + 1; omega, Or.inr rfl, So.small (by show (a + 1).toNat <= a.toNat + 1; omega)⟩
 have z := okLO.2 [D, a, b, a + 1] ⟨rfl, ha, hb, w1, trivial⟩ y1
 obtain ⟨w, hw⟩ : ∃ w, leLO.ent.fn 0 [D, a, b, a + 1] = w := ⟨_, rfl⟩
 have z : St D w a b /\ So (vl w) a.toNat b.toNat := by rw [<- hw]; exact z
 have zl := z.1.len
 refine ⟨?_, ?_⟩
 ·simp (disch := omega) only [ewZ, reduceCtorEq, seval, hSS, hw, w1, zl, y1]
 ·simp (disch := omega) only [ewZ, reduceCtorEq, seval, hSS, hw, w1]
  exact z
theorem okSd : IPz 102 pLO leSd OZ := by
 refine Co.loopK muSd false 9102 [(97, e97)] ⟨_, _, _, Tryd.func102, rfl, rfl⟩ ?_
 go_invoke
 refine enK rfl ?_
 intro φ l ρ D n hn s hs r hr hp hφ hSS _
 obtain ⟨p1, p2, p3, p4, p5⟩ := hp
 replace p1 : LN D := p1
 have p0 := p1.2
 simp only [ewY, seval] at p2 p3 p4 p5
 have v0 : IntKind.i64.wrap (2 * r) = 2 * r := i64w (by omega) (by omega)
 have v1 : IntKind.i64.wrap (2 * r + 1) = 2 * r + 1 := i64w (by omega) (by omega)
 have v2 : IntKind.i64.wrap (2 * r + 1 + 1) = 2 * r + 1 + 1 := i64w (by omega) (by omega)
 have v3 : IntKind.i64.wrap (s + (2 * r + 1)) = s + (2 * r + 1) := i64w (by omega) (by omega)
 have v4 : IntKind.i64.wrap (s + (2 * r + 1) + 1) = s + (2 * r + 1) + 1 := i64w (by omega) (by omega)
 have v5 : IntKind.i64.wrap (s + r) = s + r := i64w (by omega) (by omega)
 have v6 : IntKind.i64.wrap (s + (2 * r + 1 + 1)) = s + (2 * r + 1 + 1) := i64w (by omega) (by omega)
 have v7 : IntKind.i64.wrap (2 * r + 1 + 0) = 2 * r + 1 + 0 := i64w (by omega) (by omega)
 have v8 : IntKind.i64.wrap (s + (2 * r + 1 + 0)) = s + (2 * r + 1 + 0) := i64w (by omega) (by omega)
 have stop : (∀ k : Nat, (k = 2 * r.toNat + 1 \/ k = 2 * r.toNat + 2) -> k < n.toNat -> at0 (vl D) (s.toNat + k) <= at0 (vl D) (s.toNat + r.toNat)) -> GD D D s n r := fun h => ⟨St.refl p1.1 _ _, fun lo hlo h1 h2 => ⟨St.refl p1.1 _ _, Q7 h1 h⟩⟩
 have step : ∀ t : Int, (t = 2 * r + 1 \/ t = 2 * r + 2) -> t < n -> (∀ k : Nat, (k = 2 * r.toNat + 1 \/ k = 2 * r.toNat + 2) -> k < n.toNat -> at0 (vl D) (s.toNat + k) <= at0 (vl D) (s.toNat + t.toNat)) -> at0 (vl D) (s + r).toNat < at0 (vl D) (s + t).toNat ->
  lbSd.ent.pre [swc D (s + r).toNat (s + t).toNat, n, s, t] /\ muSd [swc D (s + r).toNat (s + t).toNat, n, s, t] < muSd [D, n, s, r] /\ (dc (φ 0 [swc D (s + r).toNat (s + t).toNat, n, s, t])).length = (dc D).length /\ GD D (φ 0 [swc D (s + r).toNat (s + t).toNat, n, s, t]) s n r := fun t ht htn hb hlt => by
  have zE : St D (swc D (s + r).toNat (s + t).toNat) s (s + n) := St.swc p1.1 p2 (by omega) (by omega) (by omega)
  have e1 : (s + r).toNat = s.toNat + r.toNat := by omega
  have e2 : (s + t).toNat = s.toNat + t.toNat := by omega
  have vE : vl (swc D (s + r).toNat (s + t).toNat) = sw (vl D) (s.toNat + r.toNat) (s.toNat + t.toNat) := by rw [CH, e1, e2]
  obtain ⟨E, hE⟩ : ∃ E, swc D (s + r).toNat (s + t).toNat = E := ⟨_, rfl⟩
  rw [hE] at zE vE ⊢
  have lE := zE.len
  have y2 : lbSd.ent.pre [E, n, s, t] := ⟨zE.ln p1, p2, by show 0 <= t; omega, by show t <= n; omega, by show s + n <= ((dc E).length : Int); omega⟩
  have ym : muSd [E, n, s, t] < muSd [D, n, s, r] := by show (n - t).toNat < (n - r).toNat; omega
  have ih := hφ [E, n, s, t] ⟨rfl, hn, hs, i64w (by omega) (by omega), trivial⟩ y2 ym
  obtain ⟨u, hu⟩ : ∃ u, φ 0 [E, n, s, t] = u := ⟨_, rfl⟩
  have ih : GD E u s n t := by rw [<- hu]; exact ih
  rw [hu]
  refine ⟨y2, ym, ih.1.len.trans lE, zE.trans ih.1, fun lo hlo h1 h2 => ?_⟩
  obtain ⟨q1, q2, q3⟩ := OW (ch := t.toNat) h1 h2 hlo (by omega) (by omega) (by rw [Au]; omega) hb (by rw [<- e1, <- e2]; omega)
  rw [<- vE] at q1 q2 q3
  have x := ih.2 lo (by omega) q1 q2
  exact ⟨⟨x.1.1, (q3.mono (by omega) (by omega)).trans x.1.2⟩, x.2⟩
 have two : ∀ k : Nat, (k = 2 * r.toNat + 1 \/ k = 2 * r.toNat + 2) -> k < n.toNat -> (at0 (vl D) (s.toNat + k) = at0 (vl D) (s + (2 * r + 1)).toNat \/ (2 * r + 1 + 1 < n /\ at0 (vl D) (s.toNat + k) = at0 (vl D) (s + (2 * r + 1) + 1).toNat)) := fun k hk hkn => by
  rcases hk with e | e
  ·left; rw [show s.toNat + k = (s + (2 * r + 1)).toNat by omega]
  ·right; exact ⟨by omega, by rw [show s.toNat + k = (s + (2 * r + 1) + 1).toNat by omega]⟩
 have er : s.toNat + r.toNat = (s + r).toNat := by omega
 by_cases c : 2 * r + 1 >= n
 ·have z := stop fun k hk hkn => by omega
  refine ⟨?_, ?_⟩ <;> simp (disch := omega) only [ewZ, reduceCtorEq, seval, hSS, v0, v1, c]
  ·exact z
 ·by_cases c2 : 2 * r + 1 + 1 < n /\ at0 (vl D) (s + (2 * r + 1)).toNat < at0 (vl D) (s + (2 * r + 1) + 1).toNat
  ·obtain ⟨c2, c3⟩ := c2
   have e3 : s + (2 * r + 1) + 1 = s + (2 * r + 1 + 1) := by omega
   have e4 : s.toNat + (2 * r + 1 + 1).toNat = (s + (2 * r + 1 + 1)).toNat := by omega
   rw [e3] at v4 c3 two
   have big : ∀ k : Nat, (k = 2 * r.toNat + 1 \/ k = 2 * r.toNat + 2) -> k < n.toNat -> at0 (vl D) (s.toNat + k) <= at0 (vl D) (s.toNat + (2 * r + 1 + 1).toNat) := fun k hk hkn => by
    rw [e4]
    rcases two k hk hkn with e | ⟨_, e⟩ <;> omega
   by_cases c4 : at0 (vl D) (s + r).toNat < at0 (vl D) (s + (2 * r + 1 + 1)).toNat
   ·obtain ⟨z1, z2, z3, z4⟩ := step (2 * r + 1 + 1) (by omega) c2 big c4
    refine ⟨?_, ?_⟩
    ·simp (disch := omega) only [ewZ, reduceCtorEq, seval, hSS, v0, v1, v2, v3, v4, v5, v6, e3, c, c2, c3, c4, Ai, p1.1.w, l97.1, l97.2, tb, Ap, z3]
     exact ⟨by omega, z1, z2⟩
    ·simp (disch := omega) only [ewZ, reduceCtorEq, seval, hSS, v0, v1, v2, v3, v4, v5, v6, e3, c, c2, c3, c4, Ai, p1.1.w, l97.1, l97.2, tb, Ap]
     simp only [ite_self]
     exact z4
   ·have z := stop fun k hk hkn => by rw [er]; have := big k hk hkn; rw [e4] at this; omega
    refine ⟨?_, ?_⟩ <;> simp (disch := omega) only [ewZ, reduceCtorEq, seval, hSS, v0, v1, v2, v3, v4, v5, v6, e3, c, c2, c3, c4, Ai, p1.1.w, l97.1, l97.2, tb, Ap]
    ·omega
    ·exact z
  ·have e0 : 2 * r + 1 + 0 = 2 * r + 1 := by omega
   have e4 : s.toNat + (2 * r + 1).toNat = (s + (2 * r + 1)).toNat := by omega
   have big : ∀ k : Nat, (k = 2 * r.toNat + 1 \/ k = 2 * r.toNat + 2) -> k < n.toNat -> at0 (vl D) (s.toNat + k) <= at0 (vl D) (s.toNat + (2 * r + 1).toNat) := fun k hk hkn => by
    rw [e4]
    rcases two k hk hkn with e | ⟨h, e⟩
    ·omega
    ·have := fun h' => c2 ⟨h, h'⟩
     omega
   by_cases c4 : at0 (vl D) (s + r).toNat < at0 (vl D) (s + (2 * r + 1)).toNat
   ·obtain ⟨z1, z2, z3, z4⟩ := step (2 * r + 1) (by omega) (by omega) big c4
    refine ⟨?_, ?_⟩
    ·simp (disch := omega) only [ewZ, reduceCtorEq, seval, hSS, v0, v1, v2, v3, v4, v5, e0, c, c2, c4, Ai, p1.1.w, l97.1, l97.2, tb, Ap, z3]
     exact ⟨by omega, z1, z2⟩
    ·simp (disch := omega) only [ewZ, reduceCtorEq, seval, hSS, v0, v1, v2, v3, v4, v5, e0, c, c2, c4, Ai, p1.1.w, l97.1, l97.2, tb, Ap]
     simp only [ite_self]
     exact z4
   ·have z := stop fun k hk hkn => by rw [er]; have := big k hk hkn; rw [e4] at this; omega
    refine ⟨?_, ?_⟩ <;> simp (disch := omega) only [ewZ, reduceCtorEq, seval, hSS, v0, v1, v2, v3, v4, v5, e0, c, c2, c4, Ai, p1.1.w, l97.1, l97.2, tb, Ap]
    ·omega
    ·exact z
theorem cSdok : cSd.OK Tryd.prog G0 := ⟨rfl, mF trivial, mF ⟨okSd.1, trivial⟩⟩
theorem M8 : EPz e102 LI := by
 refine cSdok.entryK false [(9102, leSd.ent)] ?_
 go_invoke
 refine enK rfl ?_
 intro l ρ D r hr n hn s hs hp hSS _
 obtain ⟨p1, p2, p3, p4, p5⟩ := hp
 replace p1 : LN D := p1
 simp only [ewY, seval] at p2 p3 p4 p5
 have y1 : leSd.ent.pre [D, n, s, r] := ⟨p1, p2, p3, p4, p5⟩
 have z := okSd.2 [D, n, s, r] ⟨rfl, hn, hs, hr, trivial⟩ y1
 obtain ⟨w, hw⟩ : ∃ w, leSd.ent.fn 0 [D, n, s, r] = w := ⟨_, rfl⟩
 have z : GD D w s n r := by rw [<- hw]; exact z
 have zl := z.1.len
 refine ⟨?_, ?_⟩
 ·simp (disch := omega) only [ewZ, reduceCtorEq, seval, hSS, hw, zl, y1]
 ·simp (disch := omega) only [ewZ, reduceCtorEq, seval, hSS, hw]
  exact z
theorem O4 : c102.OK Tryd.prog G0 := Ctx.OK.nil.addF M8.1 rfl
theorem okH1 : IPz 92 pH1 leH1 O0 := by
 refine O4.loopK muH1 false 9092 [(102, e102)] ⟨_, _, _, Tryd.func92, rfl, rfl⟩ ?_
 go_invoke
 refine enK rfl ?_
 intro φ l ρ D s hs n hn i hi hp hφ hSS _
 obtain ⟨p1, p2, p3, p4, p5, p6, p7⟩ := hp
 replace p1 : LN D := p1
 replace p7 : Hq (vl D) s.toNat (i + 1).toNat n.toNat n.toNat := p7
 have p0 := p1.2
 have vi := hi
 simp only [ewY, seval] at p2 p3 p4 p5 p6
 by_cases c : i >= 0
 ·have y1 : e102.pre [D, i, n, s] := ⟨p1, p2, c, p6, p4⟩
  have z := M8.2 [D, i, n, s] ⟨rfl, hi, hn, hs, trivial⟩ y1
  obtain ⟨w, hw⟩ : ∃ w, e102.fn 0 [D, i, n, s] = w := ⟨_, rfl⟩
  have q := Hq.down (show Hq (vl D) s.toNat (i.toNat + 1) n.toNat n.toNat by rwa [show i.toNat + 1 = (i + 1).toNat by omega])
  have z : St D w (s + (i.toNat : Int)) (s + n) /\ Hq (vl w) s.toNat i.toNat n.toNat n.toNat := by rw [<- hw]; exact z.2 i.toNat (Nat.le_refl _) q.1 q.2
  have zl := z.1.len
  have w1 : IntKind.i64.wrap (i - 1) = i - 1 := i64w (by omega) (by omega)
  have y2 : lbH1.ent.pre [w, s, n, i - 1] := ⟨z.1.ln p1, p2, p3, by show s + n <= ((dc w).length : Int); omega, by show -1 <= i - 1; omega, by show i - 1 <= n; omega, by
   show Hq (vl w) s.toNat (i - 1 + 1).toNat n.toNat n.toNat
   rw [show i - 1 + 1 = i by omega]; exact z.2⟩
  have ym : muH1 [w, s, n, i - 1] < muH1 [D, s, n, i] := by show (i - 1 + 1).toNat < (i + 1).toNat; omega
  have ih := hφ [w, s, n, i - 1] ⟨rfl, hs, hn, w1, trivial⟩ y2 ym
  obtain ⟨u, hu⟩ : ∃ u, φ 0 [w, s, n, i - 1] = u := ⟨_, rfl⟩
  have ih : St w u s (s + n) /\ Hq (vl u) s.toNat 0 n.toNat n.toNat := by rw [<- hu]; exact ih
  have ul := ih.1.len
  refine ⟨?_, ?_⟩
  ·simp (disch := omega) only [ewZ, reduceCtorEq, seval, hSS, c, hw, w1, hu, zl, ul, y1]
   exact ⟨y2, ym⟩
  ·simp (disch := omega) only [ewZ, reduceCtorEq, seval, hSS, c, hw, w1, hu]
   show St D u s (s + n) /\ Hq (vl u) s.toNat 0 n.toNat n.toNat
   exact ⟨(z.1.mono (by omega) (by omega)).trans ih.1, ih.2⟩
 ·refine ⟨?_, ?_⟩ <;> simp (disch := omega) only [ewZ, reduceCtorEq, seval, hSS, c]
  ·refine ⟨St.refl p1.1 _ _, ?_⟩
   show Hq (vl D) s.toNat 0 n.toNat n.toNat
   rwa [show (i + 1).toNat = 0 by omega] at p7
theorem okH2 : IPz 92 pH2 leH2 O1 := by
 refine O4.loopK muH2 false 9192 [(102, e102)] ⟨_, _, _, Tryd.func92, rfl, rfl⟩ ?_
 go_invoke
 refine enK rfl ?_
 intro φ l ρ D s hs i hi hp hφ hSS _
 obtain ⟨p1, p2, p3, t, p4, p5, p6⟩ := hp
 replace p1 : LN D := p1
 replace p6 : Pop (vl D) s.toNat (i + 1).toNat t.toNat := p6
 have p0 := p1.2
 have vi := hi
 simp only [ewY, seval] at p2 p3 p4 p5
 by_cases c : i >= 0
 ·have w2 : IntKind.i64.wrap (s + i) = s + i := i64w (by omega) (by omega)
  have w1 : IntKind.i64.wrap (i - 1) = i - 1 := i64w (by omega) (by omega)
  obtain ⟨E, hE⟩ : ∃ E, swc D s.toNat (s + i).toNat = E := ⟨_, rfl⟩
  have zE : St D E s (s + i + 1) := by rw [<- hE]; exact St.swc p1.1 p2 (by omega) (by omega) (by omega)
  have vE : vl E = sw (vl D) s.toNat (s.toNat + i.toNat) := by rw [<- hE, CH, show (s + i).toNat = s.toNat + i.toNat by omega]
  have lE := zE.len
  have q := fun (h : Int) (h1 : i < h) (h2 : s + h <= ((dc D).length : Int)) (h3 : Pop (vl D) s.toNat (i + 1).toNat h.toNat) => Pop.swap (i := i.toNat) (by rwa [show (i + 1).toNat = i.toNat + 1 by omega] at h3) (by omega) (by rw [Au]; omega)
  rw [<- vE] at q
  have y1 : e102.pre [E, 0, i, s] := ⟨zE.ln p1, p2, by show (0 : Int) <= 0; decide, c, by show s + i <= ((dc E).length : Int); omega⟩
  have z := M8.2 [E, 0, i, s] ⟨rfl, rfl, hi, hs, trivial⟩ y1
  obtain ⟨w, hw⟩ : ∃ w, e102.fn 0 [E, 0, i, s] = w := ⟨_, rfl⟩
  have z : St E w (s + ((0 : Nat) : Int)) (s + i) /\ Hq (vl w) s.toNat 0 i.toNat i.toNat := by rw [<- hw]; exact z.2 0 (Nat.le_refl _) (q t p4 p5 p6).1 (q t p4 p5 p6).2.1
  have zl := z.1.len
  have z2 : Sg (vl E) (vl w) s.toNat (s.toNat + i.toNat) := z.1.2.mono (by omega) (by omega)
  have y2 : lbH2.ent.pre [w, s, i - 1] := ⟨z.1.ln (zE.ln p1), p2, by show -1 <= i - 1; omega, t, by show i - 1 < t; omega, by show s + t <= ((dc w).length : Int); omega, by
   show Pop (vl w) s.toNat (i - 1 + 1).toNat t.toNat
   rw [show i - 1 + 1 = i by omega]; exact (q t p4 p5 p6).2.2.2 _ z2 z.2⟩
  have ym : muH2 [w, s, i - 1] < muH2 [D, s, i] := by show (i - 1 + 1).toNat < (i + 1).toNat; omega
  have ih := hφ [w, s, i - 1] ⟨rfl, hs, w1, trivial⟩ y2 ym
  obtain ⟨u, hu⟩ : ∃ u, φ 0 [w, s, i - 1] = u := ⟨_, rfl⟩
  have ih : ∀ h : Int, i - 1 < h -> s + h <= ((dc w).length : Int) -> Pop (vl w) s.toNat (i - 1 + 1).toNat h.toNat -> St w u s (s + h) /\ Pop (vl u) s.toNat 0 h.toNat := by rw [<- hu]; exact ih
  rw [show i - 1 + 1 = i by omega] at ih
  have ul := (ih t (by omega) (by omega) ((q t p4 p5 p6).2.2.2 _ z2 z.2)).1.len
  refine ⟨?_, ?_⟩
  ·simp (disch := omega) only [ewZ, reduceCtorEq, seval, hSS, c, w1, w2, Ai, p1.1.w, Ap, hE, hw, hu, zl, ul, lE, y1]
   exact ⟨by omega, y2, ym⟩
  ·simp (disch := omega) only [ewZ, reduceCtorEq, seval, hSS, c, w1, w2, Ai, p1.1.w, Ap, hE, hw, hu]
   intro h (h1 : i < h) (h2 : s + h <= ((dc D).length : Int)) (h3 : Pop (vl D) s.toNat (i + 1).toNat h.toNat)
   show St D u s (s + h) /\ Pop (vl u) s.toNat 0 h.toNat
   have x := ih h (by omega) (by omega) ((q h h1 h2 h3).2.2.2 _ z2 z.2)
   exact ⟨(zE.mono (Int.le_refl _) (by omega)).trans ((z.1.mono (by omega) (by omega)).trans x.1), x.2⟩
 ·refine ⟨?_, ?_⟩ <;> simp (disch := omega) only [ewZ, reduceCtorEq, seval, hSS, c]
  ·intro h (h1 : i < h) (h2 : s + h <= ((dc D).length : Int)) (h3 : Pop (vl D) s.toNat (i + 1).toNat h.toNat)
   refine ⟨St.refl p1.1 _ _, ?_⟩
   show Pop (vl D) s.toNat 0 h.toNat
   rwa [show (i + 1).toNat = 0 by omega] at h3
theorem cHok : cH.OK Tryd.prog G0 := ⟨rfl, mF trivial, mF ⟨okH1.1, okH2.1, trivial⟩⟩
theorem ok92 : EPz e92 Bq := by
 refine cHok.entryK false [(9092, leH1.ent), (9192, leH2.ent)] ?_
 go_invoke
 refine enK rfl ?_
 intro l ρ D a ha b hb hp hSS _
 obtain ⟨p1, p2, p3, p4⟩ := hp
 replace p1 : LN D := p1
 have p0 := p1.2
 simp only [ewY, seval] at p2 p3 p4
 have w1 : IntKind.i64.wrap (b - a) = b - a := i64w (by omega) (by omega)
 have w2 : IntKind.i64.wrap (b - a - 1) = b - a - 1 := i64w (by omega) (by omega)
 obtain ⟨i, ei⟩ : ∃ i, (b - a - 1).tdiv 2 = i := ⟨_, rfl⟩
 have hi : -1 <= i /\ i <= b - a /\ b - a <= 2 * i + 2 := by
  rw [<- ei]
  by_cases e : b - a = 0
  ·rw [e]; decide
  ·rw [Int.tdiv_eq_ediv_of_nonneg (by omega)]; omega
 have w3 : IntKind.i64.wrap i = i := i64w (by omega) (by omega)
 have y1 : leH1.ent.pre [D, a, b - a, i] := ⟨p1, p2, by show 0 <= b - a; omega, by show a + (b - a) <= ((dc D).length : Int); omega, hi.1, hi.2.1, Hq.none (by show (b - a).toNat <= 2 * (i + 1).toNat + 1; omega)⟩
 have z := okH1.2 [D, a, b - a, i] ⟨rfl, ha, w1, w3, trivial⟩ y1
 obtain ⟨w, hw⟩ : ∃ w, leH1.ent.fn 0 [D, a, b - a, i] = w := ⟨_, rfl⟩
 have z : St D w a (a + (b - a)) /\ Hq (vl w) a.toNat 0 (b - a).toNat (b - a).toNat := by rw [<- hw]; exact z
 have zl := z.1.len
 have ps := Pop.start z.2
 have y2 : leH2.ent.pre [w, a, b - a - 1] := ⟨z.1.ln p1, p2, by show -1 <= b - a - 1; omega, b - a, by show b - a - 1 < b - a; omega, by show a + (b - a) <= ((dc w).length : Int); omega, by
  show Pop (vl w) a.toNat (b - a - 1 + 1).toNat (b - a).toNat
  rw [show b - a - 1 + 1 = b - a by omega]; exact ps⟩
 have x := okH2.2 [w, a, b - a - 1] ⟨rfl, ha, w2, trivial⟩ y2
 obtain ⟨u, hu⟩ : ∃ u, leH2.ent.fn 0 [w, a, b - a - 1] = u := ⟨_, rfl⟩
 have x : St w u a (a + (b - a)) /\ Pop (vl u) a.toNat 0 (b - a).toNat := by
  rw [<- hu]
  refine x (b - a) (by show b - a - 1 < b - a; omega) (by show a + (b - a) <= ((dc w).length : Int); omega) ?_
  show Pop (vl w) a.toNat (b - a - 1 + 1).toNat (b - a).toNat
  rw [show b - a - 1 + 1 = b - a by omega]; exact ps
 have xl := x.1.len
 refine ⟨?_, ?_⟩
 ·simp (disch := omega) only [ewZ, reduceCtorEq, seval, hSS, w1, w2, ei, w3, hw, hu, zl, xl, y1, y2]
 ·simp (disch := omega) only [ewZ, reduceCtorEq, seval, hSS, w1, w2, ei, w3, hw, hu]
  refine ⟨(z.1.trans x.1).mono (Int.le_refl _) (by show a + (b - a) <= b; omega), ?_⟩
  have := x.2.done
  show So (vl u) a.toNat b.toNat
  rwa [show a.toNat + (b - a).toNat = b.toNat by omega] at this
theorem okRv : IPz 95 pRv leRv O2 := by
 refine Ctx.OK.nil.loopK (c := cN) muRv false 9095 [] ⟨_, _, _, Tryd.func95, rfl, rfl⟩ ?_
 go_invoke
 refine enK rfl ?_
 intro φ l ρ D i hi j hj hp hφ hSS _
 obtain ⟨p1, p2, p3, p4, p5⟩ := hp
 replace p1 : LN D := p1
 have p0 := p1.2
 have vi := hi
 have vj := hj
 simp only [ewY, seval] at p2 p3 p4 p5
 by_cases c : i < j
 ·have w1 : IntKind.i64.wrap (i + 1) = i + 1 := i64w (by omega) (by omega)
  have w2 : IntKind.i64.wrap (j - 1) = j - 1 := i64w (by omega) (by omega)
  obtain ⟨E, hE⟩ : ∃ E, swc D i.toNat j.toNat = E := ⟨_, rfl⟩
  have zE : St D E i (j + 1) := by rw [<- hE]; exact St.swc p1.1 p2 (by omega) (by omega) (by omega)
  have lE := zE.len
  have y2 : lbRv.ent.pre [E, i + 1, j - 1] := ⟨zE.ln p1, by show 0 <= i + 1; omega, by show -1 <= j - 1; omega, by show j - 1 < ((dc E).length : Int); omega, by show i + 1 <= ((dc E).length : Int); omega⟩
  have ym : muRv [E, i + 1, j - 1] < muRv [D, i, j] := by show (j - 1 - (i + 1)).toNat < (j - i).toNat; omega
  have ih := hφ [E, i + 1, j - 1] ⟨rfl, w1, w2, trivial⟩ y2 ym
  obtain ⟨u, hu⟩ : ∃ u, φ 0 [E, i + 1, j - 1] = u := ⟨_, rfl⟩
  have ih : St E u (i + 1) (j - 1 + 1) := by rw [<- hu]; exact ih
  have ul := ih.len
  refine ⟨?_, ?_⟩
  ·simp (disch := omega) only [ewZ, reduceCtorEq, seval, hSS, c, w1, w2, Ai, p1.1.w, Ap, hE, hu, ul, lE]
   exact ⟨by omega, y2, ym⟩
  ·simp (disch := omega) only [ewZ, reduceCtorEq, seval, hSS, c, w1, w2, Ai, p1.1.w, Ap, hE, hu]
   exact zE.trans (ih.mono (by omega) (by omega))
 ·refine ⟨?_, ?_⟩ <;> simp (disch := omega) only [ewZ, reduceCtorEq, seval, hSS, c]
  ·exact St.refl p1.1 _ _
theorem cRvok : cRv.OK Tryd.prog G0 := ⟨rfl, mF trivial, mF ⟨okRv.1, trivial⟩⟩
theorem ok95 : EPz e95 O3 := by
 refine cRvok.entryK false [(9095, leRv.ent)] ?_
 go_invoke
 refine enK rfl ?_
 intro l ρ D a ha b hb hp hSS _
 obtain ⟨p1, p2, p3, p4⟩ := hp
 replace p1 : LN D := p1
 have p0 := p1.2
 simp only [ewY, seval] at p2 p3 p4
 have w1 : IntKind.i64.wrap (b - 1) = b - 1 := i64w (by omega) (by omega)
 have y1 : leRv.ent.pre [D, a, b - 1] := ⟨p1, p2, by show -1 <= b - 1; omega, by show b - 1 < ((dc D).length : Int); omega, by show a <= ((dc D).length : Int); omega⟩
 have z := okRv.2 [D, a, b - 1] ⟨rfl, ha, w1, trivial⟩ y1
 obtain ⟨w, hw⟩ : ∃ w, leRv.ent.fn 0 [D, a, b - 1] = w := ⟨_, rfl⟩
 have z : St D w a (b - 1 + 1) := by rw [<- hw]; exact z
 have zl := z.len
 refine ⟨?_, ?_⟩
 ·simp (disch := omega) only [ewZ, reduceCtorEq, seval, hSS, hw, w1, zl, y1]
 ·simp (disch := omega) only [ewZ, reduceCtorEq, seval, hSS, hw, w1]
  exact z.mono (Int.le_refl _) (by show b - 1 + 1 <= b; omega)
end
end Go.Proofs.YtgpflpbldeflhaaDoor.Ew.Sr
set_option maxHeartbeats 8000000
namespace Go.Proofs.YtgpflpbldeflhaaDoor.Ew.Sr
open Go Go.RowKit
noncomputable section
def PIx (D a b i j : Int) : Prop := b <= ((dc D).length : Int) /\ PI (vl D) a.toNat b.toNat i.toNat j.toNat /\ a < i /\ i <= j + 1 /\ a <= j /\ j < b
def preP (xs : List Int) : Prop := LN (env xs 0) /\ 0 <= env xs 1 /\ ∃ b, PIx (env xs 0) (env xs 1) b (env xs 2) (env xs 3)
def Ii (xs ys : List Int) : Prop := env ys 0 = env xs 0 /\ env xs 2 <= env ys 1 /\ env ys 1 <= env xs 3 + 1 /\ (env ys 1 <= env xs 3 -> at0 (vl (env xs 0)) (env xs 1).toNat <= at0 (vl (env xs 0)) (env ys 1).toNat) /\ ∀ b, PIx (env xs 0) (env xs 1) b (env xs 2) (env xs 3) -> PIx (env xs 0) (env xs 1) b (env ys 1) (env xs 3)
def Ij (xs ys : List Int) : Prop := env ys 0 = env xs 0 /\ env ys 1 <= env xs 3 /\ env xs 2 <= env ys 1 + 1 /\ (env xs 2 <= env ys 1 -> at0 (vl (env xs 0)) (env ys 1).toNat < at0 (vl (env xs 0)) (env xs 1).toNat) /\ ∀ b, PIx (env xs 0) (env xs 1) b (env xs 2) (env xs 3) -> PIx (env xs 0) (env xs 1) b (env xs 2) (env ys 1)
def muP (xs : List Int) : Nat := (env xs 3 + 1 - env xs 2).toNat
def pP1 : List Bool := [true,true,true,false,false]
def pP2 : List Bool := [true,true,true,true,false,false]
def pP5 : List Bool := [true,true,true,true,true,true,true,true,true,false,false]
def pP3 : List Bool := pP5 ++ [false,false,false,false]
def pP4 : List Bool := pP5 ++ [false,false,true,false,false]
def lbP1 : LEnt := ⟨⟨9099, 999999, [Dt, i64, i64, i64], [dO], [], .tup [i64], z0, preP⟩, [0, 1, 10, 11], [10], (List.range 16).map (· + 30), [.ex 0], 168, []⟩
def lbP2 : LEnt := ⟨⟨9199, 999999, [Dt, i64, i64, i64], [dO], [], .tup [i64], z0, preP⟩, [0, 1, 10, 11], [11], (List.range 17).map (· + 46), [.ex 2], 168, []⟩
def lbP3 : LEnt := ⟨⟨9299, 999999, [Dt, i64, i64, i64], [dO], [], .tup [i64], z0, preP⟩, [0, 1, 10, 11], [10], (List.range 16).map (· + 99), [.ex 6], 168, []⟩
def lbP4 : LEnt := ⟨⟨9399, 999999, [Dt, i64, i64, i64], [dO], [], .tup [i64], z0, preP⟩, [0, 1, 10, 11], [11], (List.range 17).map (· + 115), [.ex 8], 168, []⟩
def leP1 : LEnt := lbP1.fw (fnM Tryd.prog G0 99 pP1 lbP1 Ii)
def leP2 : LEnt := lbP2.fw (fnM Tryd.prog G0 99 pP2 lbP2 Ij)
def leP3 : LEnt := lbP3.fw (fnM Tryd.prog G0 99 pP3 lbP3 Ii)
def leP4 : LEnt := lbP4.fw (fnM Tryd.prog G0 99 pP4 lbP4 Ij)
def cP5 : Ctx := ⟨[], [(99, pP3, leP3), (99, pP4, leP4)]⟩
def O5 (xs ys : List Int) : Prop := ∀ b, PIx (env xs 0) (env xs 1) b (env xs 2) (env xs 3) -> St (env xs 0) (env ys 0) (env xs 1 + 1) b /\ PIx (env ys 0) (env xs 1) b (env ys 1 + 1) (env ys 1)
def lbP5 : LEnt := ⟨⟨9499, 999999, [Dt, i64, i64, i64], [dO], [], .tup [i64], z0, preP⟩, [0, 1, 10, 11], [11], [10] ++ (List.range 54).map (· + 99), [.ex 4], 168, []⟩
def leP5 : LEnt := lbP5.fw (fnM Tryd.prog G0 99 pP5 lbP5 O5)
def cP : Ctx := ⟨[], [(99, pP1, leP1), (99, pP2, leP2), (99, pP5, leP5)]⟩
def pre99 (xs : List Int) : Prop := In3 (env xs 0) (env xs 1) (env xs 2) /\ env xs 1 + 1 < env xs 2 /\ env xs 1 <= env xs 3 /\ env xs 3 < env xs 2
def O6 (xs ys : List Int) : Prop := St (env xs 0) (env ys 0) (env xs 1) (env xs 2) /\ Pt (vl (env ys 0)) (env xs 1).toNat (env xs 2).toNat (env ys 1).toNat /\ env xs 1 <= env ys 1 /\ env ys 1 < env xs 2
def b99 : Ent := ⟨99, 99, [Dt, i64, i64, i64], [dO], [], .tup [i64, .sc .b], z0, pre99⟩
def e99 : Ent := b99.fw (fnG Tryd.prog G0 b99 O6)
def pQ3 : List Bool := [true,true,true,false,false]
def pQ1 : List Bool := pQ3 ++ [false,false,false,false]
def pQ2 : List Bool := pQ3 ++ [false,false,true,false,false]
def O7 (xs ys : List Int) : Prop := env ys 0 = env xs 0 /\ env xs 2 <= env ys 1 /\ env ys 1 <= env xs 3 + 1 /\ (env ys 1 <= env xs 3 -> at0 (vl (env xs 0)) (env xs 1).toNat < at0 (vl (env xs 0)) (env ys 1).toNat) /\ ∀ b, PIx (env xs 0) (env xs 1) b (env xs 2) (env xs 3) -> PIx (env xs 0) (env xs 1) b (env ys 1) (env xs 3)
def O8 (xs ys : List Int) : Prop := env ys 0 = env xs 0 /\ env ys 1 <= env xs 3 /\ env xs 2 <= env ys 1 + 1 /\ (env xs 2 <= env ys 1 -> at0 (vl (env xs 0)) (env ys 1).toNat <= at0 (vl (env xs 0)) (env xs 1).toNat) /\ ∀ b, PIx (env xs 0) (env xs 1) b (env xs 2) (env xs 3) -> PIx (env xs 0) (env xs 1) b (env xs 2) (env ys 1)
def lbQ1 : LEnt := ⟨⟨9098, 999999, [Dt, i64, i64, i64], [dO], [], .tup [i64], z0, preP⟩, [0, 1, 9, 10], [9], (List.range 17).map (· + 29), [.ex 2], 84, []⟩
def lbQ2 : LEnt := ⟨⟨9198, 999999, [Dt, i64, i64, i64], [dO], [], .tup [i64], z0, preP⟩, [0, 1, 9, 10], [10], (List.range 16).map (· + 46), [.ex 4], 84, []⟩
def leQ1 : LEnt := lbQ1.fw (fnM Tryd.prog G0 98 pQ1 lbQ1 O7)
def leQ2 : LEnt := lbQ2.fw (fnM Tryd.prog G0 98 pQ2 lbQ2 O8)
def cQ3 : Ctx := ⟨[], [(98, pQ1, leQ1), (98, pQ2, leQ2)]⟩
def O9 (xs ys : List Int) : Prop := ∀ b, PIx (env xs 0) (env xs 1) b (env xs 2) (env xs 3) -> St (env xs 0) (env ys 0) (env xs 1 + 1) b /\ PIx (env ys 0) (env xs 1) b (env ys 1) (env ys 1 - 1)
def lbQ3 : LEnt := ⟨⟨9298, 999999, [Dt, i64, i64, i64], [dO], [], .tup [i64], z0, preP⟩, [0, 1, 9, 10], [9], [10] ++ (List.range 54).map (· + 29), [.ex 0], 84, []⟩
def leQ3 : LEnt := lbQ3.fw (fnM Tryd.prog G0 98 pQ3 lbQ3 O9)
def cQ : Ctx := ⟨[], [(98, pQ3, leQ3)]⟩
def pre98 (xs : List Int) : Prop := pre99 xs /\ ∀ k : Nat, (env xs 1).toNat <= k -> k < (env xs 2).toNat -> at0 (vl (env xs 0)) (env xs 3).toNat <= at0 (vl (env xs 0)) k
def Pa (xs ys : List Int) : Prop := St (env xs 0) (env ys 0) (env xs 1) (env xs 2) /\ env xs 1 < env ys 1 /\ env ys 1 <= env xs 2 /\ (∀ k : Nat, (env xs 1).toNat <= k -> k < (env ys 1).toNat -> at0 (vl (env ys 0)) k = at0 (vl (env xs 0)) (env xs 3).toNat) /\ ∀ k : Nat, (env ys 1).toNat <= k -> k < (env xs 2).toNat -> at0 (vl (env xs 0)) (env xs 3).toNat <= at0 (vl (env ys 0)) k
def b98 : Ent := ⟨98, 98, [Dt, i64, i64, i64], [dO], [], i64, z0, pre98⟩
def e98 : Ent := b98.fw (fnG Tryd.prog G0 b98 Pa)
theorem PIx.inc {D a b i j : Int} (h : PIx D a b i j) (ha : 0 <= a) (hij : i <= j) (hi : at0 (vl D) i.toNat <= at0 (vl D) a.toNat) : PIx D a b (i + 1) j := by
 obtain ⟨h1, h2, h3, h4, h5, h6⟩ := h
 have := h2.inc (by omega) hi
 rw [show i.toNat + 1 = (i + 1).toNat by omega] at this
 exact ⟨h1, this, by omega, by omega, h5, h6⟩
theorem PIx.dec {D a b i j : Int} (h : PIx D a b i j) (ha : 0 <= a) (hij : i <= j) (hj : at0 (vl D) a.toNat <= at0 (vl D) j.toNat) : PIx D a b i (j - 1) := by
 obtain ⟨h1, h2, h3, h4, h5, h6⟩ := h
 have := h2.dec (by omega) hj
 rw [show j.toNat - 1 = (j - 1).toNat by omega] at this
 exact ⟨h1, this, h3, by omega, by omega, by omega⟩
theorem PIx.swap {D a b i j : Int} (h : PIx D a b i j) (hr : RO kU D) (ha : 0 <= a) (hij : i < j) (hi : at0 (vl D) a.toNat <= at0 (vl D) i.toNat) (hj : at0 (vl D) j.toNat <= at0 (vl D) a.toNat) :
 PIx (swc D i.toNat j.toNat) a b (i + 1) (j - 1) /\ St D (swc D i.toNat j.toNat) (a + 1) b := by
 obtain ⟨h1, h2, h3, h4, h5, h6⟩ := h
 have := (h2.swap (by omega) (by rw [Au]; omega) hi hj).1
 rw [<- CH, show i.toNat + 1 = (i + 1).toNat by omega, show j.toNat - 1 = (j - 1).toNat by omega] at this
 exact ⟨⟨by rw [AX]; exact h1, this, by omega, by omega, by omega, by omega⟩, St.swc hr (by omega) (by omega) (by omega) h1⟩
theorem PIx.done {D a b j : Int} (h : PIx D a b (j + 1) j) (hr : RO kU D) (ha : 0 <= a) : Pt (vl (swc D j.toNat a.toNat)) a.toNat b.toNat j.toNat /\ St D (swc D j.toNat a.toNat) a b := by
 obtain ⟨h1, h2, h3, h4, h5, h6⟩ := h
 rw [show (j + 1).toNat = j.toNat + 1 by omega] at h2
 have := (h2.done (by rw [Au]; omega)).1
 rw [<- CH] at this
 exact ⟨this, St.swc hr ha (by omega) (by omega) h1⟩
theorem PIx.start {D a b : Int} (ha : 0 <= a) (h : a + 1 < b) (hb : b <= ((dc D).length : Int)) : PIx D a b (a + 1) (b - 1) := by
 have := PI.start (v := vl D) (a := a.toNat) (b := b.toNat) (by omega)
 rw [show a.toNat + 1 = (a + 1).toNat by omega, show b.toNat - 1 = (b - 1).toNat by omega] at this
 exact ⟨hb, this, by omega, by omega, by omega, by omega⟩
theorem okP1Z : (IPz 99 pP1 leP1 Ii) /\ (IPz 99 pP3 leP3 Ii) := by
 refine ⟨?_, ?_⟩
 all_goals
  first
  | refine Co.loopK muP false 9099 [(97, e97)] ⟨_, _, _, Tryd.func99, rfl, rfl⟩ ?_
  | refine Co.loopK muP false 9299 [(97, e97)] ⟨_, _, _, Tryd.func99, rfl, rfl⟩ ?_
  go_invoke
  refine enK rfl ?_
  intro φ l ρ D a ha i hi j hj hp hφ hSS _
  obtain ⟨p1, p2, b0, p3⟩ := hp
  replace p1 : LN D := p1
  replace p3 : PIx D a b0 i j := p3
  have p0 := p1.2
  have p4 := p3
  obtain ⟨q1, q2, q3, q4, q5, q6⟩ := p4
  simp only [ewY, seval] at p2
  have w1 : IntKind.i64.wrap (i + 1) = i + 1 := i64w (by omega) (by omega)
  by_cases c : i <= j
  ·by_cases c2 : at0 (vl D) i.toNat < at0 (vl D) a.toNat
   ·have y2 : preP [D, a, i + 1, j] := ⟨p1, p2, b0, p3.inc p2 c (by omega)⟩
    have ym : muP [D, a, i + 1, j] < muP [D, a, i, j] := by show (j + 1 - (i + 1)).toNat < (j + 1 - i).toNat; omega
    have ih := hφ [D, a, i + 1, j] ⟨rfl, ha, w1, hj, trivial⟩ y2 ym
    obtain ⟨u, hu⟩ : ∃ u, φ 0 [D, a, i + 1, j] = u := ⟨_, rfl⟩
    obtain ⟨t, ht⟩ : ∃ t, IntKind.i64.wrap (φ 1 [D, a, i + 1, j]) = t := ⟨_, rfl⟩
    have ih : u = D /\ i + 1 <= t /\ t <= j + 1 /\ (t <= j -> at0 (vl D) a.toNat <= at0 (vl D) t.toNat) /\ ∀ b, PIx D a b (i + 1) j -> PIx D a b t j := by rw [<- hu, <- ht]; exact ih
    obtain ⟨ih1, ih2, ih3, ih4, ih5⟩ := ih
    have ih1 := ih1.symm
    subst ih1
    refine ⟨?_, ?_⟩
    ·simp (disch := omega) only [ewZ, reduceCtorEq, seval, hSS, Ai, p1.1.w, l97.1, l97.2, tb, c, c2, w1, hu]
     exact ⟨by omega, y2, ym⟩
    ·simp (disch := omega) only [ewZ, reduceCtorEq, seval, hSS, Ai, p1.1.w, l97.1, l97.2, tb, c, c2, w1, hu, ht]
     exact ⟨rfl, by show i <= t; omega, ih3, ih4, fun b (h : PIx D a b i j) => ih5 b (h.inc p2 c (by omega))⟩
   ·refine ⟨?_, ?_⟩ <;> simp (disch := omega) only [ewZ, reduceCtorEq, seval, hSS, Ai, p1.1.w, l97.1, l97.2, tb, c, c2]
    ·omega
    ·exact ⟨rfl, Int.le_refl _, q4, fun _ => by show at0 (vl D) a.toNat <= at0 (vl D) i.toNat; omega, fun _ h => h⟩
  ·refine ⟨?_, ?_⟩ <;> simp (disch := omega) only [ewZ, reduceCtorEq, seval, hSS, c]
   ·exact ⟨rfl, Int.le_refl _, q4, fun h => absurd h c, fun _ h => h⟩
theorem okP2Z : (IPz 99 pP2 leP2 Ij) /\ (IPz 99 pP4 leP4 Ij) := by
 refine ⟨?_, ?_⟩
 all_goals
  first
  | refine Co.loopK muP false 9199 [(97, e97)] ⟨_, _, _, Tryd.func99, rfl, rfl⟩ ?_
  | refine Co.loopK muP false 9399 [(97, e97)] ⟨_, _, _, Tryd.func99, rfl, rfl⟩ ?_
  go_invoke
  refine enK rfl ?_
  intro φ l ρ D a ha i hi j hj hp hφ hSS _
  obtain ⟨p1, p2, b0, p3⟩ := hp
  replace p1 : LN D := p1
  replace p3 : PIx D a b0 i j := p3
  have p0 := p1.2
  have p4 := p3
  obtain ⟨q1, q2, q3, q4, q5, q6⟩ := p4
  simp only [ewY, seval] at p2
  have w1 : IntKind.i64.wrap (j - 1) = j - 1 := i64w (by omega) (by omega)
  by_cases c : i <= j
  ·by_cases c2 : at0 (vl D) j.toNat < at0 (vl D) a.toNat
   ·refine ⟨?_, ?_⟩ <;> simp (disch := omega) only [ewZ, reduceCtorEq, seval, hSS, Ai, p1.1.w, l97.1, l97.2, tb, c, c2]
    ·omega
    ·exact ⟨rfl, Int.le_refl _, q4, fun _ => by show at0 (vl D) j.toNat < at0 (vl D) a.toNat; omega, fun _ h => h⟩
   ·have y2 : preP [D, a, i, j - 1] := ⟨p1, p2, b0, p3.dec p2 c (by omega)⟩
    have ym : muP [D, a, i, j - 1] < muP [D, a, i, j] := by show (j - 1 + 1 - i).toNat < (j + 1 - i).toNat; omega
    have ih := hφ [D, a, i, j - 1] ⟨rfl, ha, hi, w1, trivial⟩ y2 ym
    obtain ⟨u, hu⟩ : ∃ u, φ 0 [D, a, i, j - 1] = u := ⟨_, rfl⟩
    obtain ⟨t, ht⟩ : ∃ t, IntKind.i64.wrap (φ 1 [D, a, i, j - 1]) = t := ⟨_, rfl⟩
    have ih : u = D /\ t <= j - 1 /\ i <= t + 1 /\ (i <= t -> at0 (vl D) t.toNat < at0 (vl D) a.toNat) /\ ∀ b, PIx D a b i (j - 1) -> PIx D a b i t := by rw [<- hu, <- ht]; exact ih
    obtain ⟨ih1, ih2, ih3, ih4, ih5⟩ := ih
    have ih1 := ih1.symm
    subst ih1
    refine ⟨?_, ?_⟩
    ·simp (disch := omega) only [ewZ, reduceCtorEq, seval, hSS, Ai, p1.1.w, l97.1, l97.2, tb, c, c2, w1, hu]
     exact ⟨by omega, y2, ym⟩
    ·simp (disch := omega) only [ewZ, reduceCtorEq, seval, hSS, Ai, p1.1.w, l97.1, l97.2, tb, c, c2, w1, hu, ht]
     exact ⟨rfl, by show t <= j; omega, ih3, ih4, fun b (h : PIx D a b i j) => ih5 b (h.dec p2 c (by omega))⟩
  ·refine ⟨?_, ?_⟩ <;> simp (disch := omega) only [ewZ, reduceCtorEq, seval, hSS, c]
   ·exact ⟨rfl, Int.le_refl _, q4, fun h => absurd h c, fun _ h => h⟩
theorem okQ1 : IPz 98 pQ1 leQ1 O7 := by
 refine Co.loopK muP false 9098 [(97, e97)] ⟨_, _, _, Tryd.func98, rfl, rfl⟩ ?_
 go_invoke
 refine enK rfl ?_
 intro φ l ρ D a ha i hi j hj hp hφ hSS _
 obtain ⟨p1, p2, b0, p3⟩ := hp
 replace p1 : LN D := p1
 replace p3 : PIx D a b0 i j := p3
 have p0 := p1.2
 have p4 := p3
 obtain ⟨q1, q2, q3, q4, q5, q6⟩ := p4
 simp only [ewY, seval] at p2
 have w1 : IntKind.i64.wrap (i + 1) = i + 1 := i64w (by omega) (by omega)
 by_cases c : i <= j
 ·by_cases c2 : at0 (vl D) a.toNat < at0 (vl D) i.toNat
  ·refine ⟨?_, ?_⟩ <;> simp (disch := omega) only [ewZ, reduceCtorEq, seval, hSS, Ai, p1.1.w, l97.1, l97.2, tb, c, c2]
   ·omega
   ·exact ⟨rfl, Int.le_refl _, q4, fun _ => by show at0 (vl D) a.toNat < at0 (vl D) i.toNat; omega, fun _ h => h⟩
  ·have y2 : lbQ1.ent.pre [D, a, i + 1, j] := ⟨p1, p2, b0, p3.inc p2 c (by omega)⟩
   have ym : muP [D, a, i + 1, j] < muP [D, a, i, j] := by show (j + 1 - (i + 1)).toNat < (j + 1 - i).toNat; omega
   have ih := hφ [D, a, i + 1, j] ⟨rfl, ha, w1, hj, trivial⟩ y2 ym
   obtain ⟨u, hu⟩ : ∃ u, φ 0 [D, a, i + 1, j] = u := ⟨_, rfl⟩
   obtain ⟨t, ht⟩ : ∃ t, IntKind.i64.wrap (φ 1 [D, a, i + 1, j]) = t := ⟨_, rfl⟩
   have ih : u = D /\ i + 1 <= t /\ t <= j + 1 /\ (t <= j -> at0 (vl D) a.toNat < at0 (vl D) t.toNat) /\ ∀ b, PIx D a b (i + 1) j -> PIx D a b t j := by rw [<- hu, <- ht]; exact ih
   obtain ⟨ih1, ih2, ih3, ih4, ih5⟩ := ih
   have ih1 := ih1.symm
   subst ih1
   refine ⟨?_, ?_⟩
   ·simp (disch := omega) only [ewZ, reduceCtorEq, seval, hSS, Ai, p1.1.w, l97.1, l97.2, tb, c, c2, w1, hu]
    exact ⟨by omega, y2, ym⟩
   ·simp (disch := omega) only [ewZ, reduceCtorEq, seval, hSS, Ai, p1.1.w, l97.1, l97.2, tb, c, c2, w1, hu, ht]
    exact ⟨rfl, by show i <= t; omega, ih3, ih4, fun b (h : PIx D a b i j) => ih5 b (h.inc p2 c (by omega))⟩
 ·refine ⟨?_, ?_⟩ <;> simp (disch := omega) only [ewZ, reduceCtorEq, seval, hSS, c]
  ·exact ⟨rfl, Int.le_refl _, q4, fun h => absurd h c, fun _ h => h⟩
theorem okQ2 : IPz 98 pQ2 leQ2 O8 := by
 refine Co.loopK muP false 9198 [(97, e97)] ⟨_, _, _, Tryd.func98, rfl, rfl⟩ ?_
 go_invoke
 refine enK rfl ?_
 intro φ l ρ D a ha i hi j hj hp hφ hSS _
 obtain ⟨p1, p2, b0, p3⟩ := hp
 replace p1 : LN D := p1
 replace p3 : PIx D a b0 i j := p3
 have p0 := p1.2
 have p4 := p3
 obtain ⟨q1, q2, q3, q4, q5, q6⟩ := p4
 simp only [ewY, seval] at p2
 have w1 : IntKind.i64.wrap (j - 1) = j - 1 := i64w (by omega) (by omega)
 by_cases c : i <= j
 ·by_cases c2 : at0 (vl D) a.toNat < at0 (vl D) j.toNat
  ·have y2 : lbQ2.ent.pre [D, a, i, j - 1] := ⟨p1, p2, b0, p3.dec p2 c (by omega)⟩
   have ym : muP [D, a, i, j - 1] < muP [D, a, i, j] := by show (j - 1 + 1 - i).toNat < (j + 1 - i).toNat; omega
   have ih := hφ [D, a, i, j - 1] ⟨rfl, ha, hi, w1, trivial⟩ y2 ym
   obtain ⟨u, hu⟩ : ∃ u, φ 0 [D, a, i, j - 1] = u := ⟨_, rfl⟩
   obtain ⟨t, ht⟩ : ∃ t, IntKind.i64.wrap (φ 1 [D, a, i, j - 1]) = t := ⟨_, rfl⟩
   have ih : u = D /\ t <= j - 1 /\ i <= t + 1 /\ (i <= t -> at0 (vl D) t.toNat <= at0 (vl D) a.toNat) /\ ∀ b, PIx D a b i (j - 1) -> PIx D a b i t := by rw [<- hu, <- ht]; exact ih
   obtain ⟨ih1, ih2, ih3, ih4, ih5⟩ := ih
   have ih1 := ih1.symm
   subst ih1
   refine ⟨?_, ?_⟩
   ·simp (disch := omega) only [ewZ, reduceCtorEq, seval, hSS, Ai, p1.1.w, l97.1, l97.2, tb, c, c2, w1, hu]
    exact ⟨by omega, y2, ym⟩
   ·simp (disch := omega) only [ewZ, reduceCtorEq, seval, hSS, Ai, p1.1.w, l97.1, l97.2, tb, c, c2, w1, hu, ht]
    exact ⟨rfl, by show t <= j; omega, ih3, ih4, fun b (h : PIx D a b i j) => ih5 b (h.dec p2 c (by omega))⟩
  ·refine ⟨?_, ?_⟩ <;> simp (disch := omega) only [ewZ, reduceCtorEq, seval, hSS, Ai, p1.1.w, l97.1, l97.2, tb, c, c2]
   ·omega
   ·exact ⟨rfl, Int.le_refl _, q4, fun _ => by show at0 (vl D) j.toNat <= at0 (vl D) a.toNat; omega, fun _ h => h⟩
 ·refine ⟨?_, ?_⟩ <;> simp (disch := omega) only [ewZ, reduceCtorEq, seval, hSS, c]
  ·exact ⟨rfl, Int.le_refl _, q4, fun h => absurd h c, fun _ h => h⟩
theorem cPLok : cP5.OK Tryd.prog G0 := ⟨rfl, mF trivial, mF ⟨okP1Z.2.1, okP2Z.2.1, trivial⟩⟩
theorem okP5 : IPz 99 pP5 leP5 O5 := by
 refine cPLok.loopK muP false 9499 [(9299, leP3.ent), (9399, leP4.ent)] ⟨_, _, _, Tryd.func99, rfl, rfl⟩ ?_
 go_invoke
 refine enK rfl ?_
 intro φ l ρ D a ha i hi j hj hp hφ hSS _
 have hp' := hp
 obtain ⟨p1, p2, b0, p3⟩ := hp
 replace p1 : LN D := p1
 replace p3 : PIx D a b0 i j := p3
 have p0 := p1.2
 have p4 := p3
 obtain ⟨q1, q2, q3, q4, q5, q6⟩ := p4
 simp only [ewY, seval] at p2
 have z := okP1Z.2.2 [D, a, i, j] ⟨rfl, ha, hi, hj, trivial⟩ hp'
 obtain ⟨u1, hu1⟩ : ∃ u, leP3.ent.fn 0 [D, a, i, j] = u := ⟨_, rfl⟩
 obtain ⟨i2, hi2⟩ : ∃ t, IntKind.i64.wrap (leP3.ent.fn 1 [D, a, i, j]) = t := ⟨_, rfl⟩
 have z : u1 = D /\ i <= i2 /\ i2 <= j + 1 /\ (i2 <= j -> at0 (vl D) a.toNat <= at0 (vl D) i2.toNat) /\ ∀ b, PIx D a b i j -> PIx D a b i2 j := by rw [<- hu1, <- hi2]; exact z
 obtain ⟨z1, z2, z3, z4, z5⟩ := z
 have z1 := z1.symm
 subst z1
 have v2 : IntKind.i64.wrap i2 = i2 := i64w (by omega) (by omega)
 have y0 : lbP4.ent.pre [D, a, i2, j] := ⟨p1, p2, b0, z5 b0 p3⟩
 have y := okP2Z.2.2 [D, a, i2, j] ⟨rfl, ha, v2, hj, trivial⟩ y0
 obtain ⟨u2, hu2⟩ : ∃ u, leP4.ent.fn 0 [D, a, i2, j] = u := ⟨_, rfl⟩
 obtain ⟨j2, hj2⟩ : ∃ t, IntKind.i64.wrap (leP4.ent.fn 1 [D, a, i2, j]) = t := ⟨_, rfl⟩
 have y : u2 = D /\ j2 <= j /\ i2 <= j2 + 1 /\ (i2 <= j2 -> at0 (vl D) j2.toNat < at0 (vl D) a.toNat) /\ ∀ b, PIx D a b i2 j -> PIx D a b i2 j2 := by rw [<- hu2, <- hj2]; exact y
 obtain ⟨y1, y2, y3, y4, y5⟩ := y
 have y1 := y1.symm
 subst y1
 have w1 : IntKind.i64.wrap (i2 + 1) = i2 + 1 := i64w (by omega) (by omega)
 have w2 : IntKind.i64.wrap (j2 - 1) = j2 - 1 := i64w (by omega) (by omega)
 by_cases c : i2 > j2
 ·refine ⟨?_, ?_⟩ <;> simp (disch := omega) only [ewZ, reduceCtorEq, seval, hSS, hu1, hi2, hu2, hj2, c]
  ·exact ⟨hp', y0⟩
  ·exact fun b (h : PIx D a b i j) => ⟨St.refl p1.1 _ _, by have := y5 b (z5 b h); rwa [show i2 = j2 + 1 by omega] at this⟩
 ·have h1 := z4 (by omega)
  have h2 := y4 (by omega)
  have hlt : i2 < j2 := by
   rcases (show i2 < j2 \/ i2 = j2 by omega) with h | e
   ·exact h
   ·rw [e] at h1
    omega
  have sw := fun b (h : PIx D a b i j) => (y5 b (z5 b h)).swap p1.1 p2 hlt (by omega) (by omega)
  have lE := AX D i2.toNat j2.toNat
  obtain ⟨E, hE⟩ : ∃ E, swc D i2.toNat j2.toNat = E := ⟨_, rfl⟩
  rw [hE] at sw lE
  have g2 : lbP5.ent.pre [E, a, i2 + 1, j2 - 1] := ⟨(sw b0 p3).2.ln p1, p2, b0, (sw b0 p3).1⟩
  have gm : muP [E, a, i2 + 1, j2 - 1] < muP [D, a, i, j] := by show (j2 - 1 + 1 - (i2 + 1)).toNat < (j + 1 - i).toNat; omega
  have ih := hφ [E, a, i2 + 1, j2 - 1] ⟨rfl, ha, w1, w2, trivial⟩ g2 gm
  obtain ⟨u, hu⟩ : ∃ u, φ 0 [E, a, i2 + 1, j2 - 1] = u := ⟨_, rfl⟩
  obtain ⟨r, ht⟩ : ∃ t, IntKind.i64.wrap (φ 1 [E, a, i2 + 1, j2 - 1]) = t := ⟨_, rfl⟩
  have ih : ∀ b, PIx E a b (i2 + 1) (j2 - 1) -> St E u (a + 1) b /\ PIx u a b (r + 1) r := by rw [<- hu, <- ht]; exact ih
  have lu := (ih b0 (sw b0 p3).1).1.len
  refine ⟨?_, ?_⟩
  ·simp (disch := omega) only [ewZ, reduceCtorEq, seval, hSS, Ai, p1.1.w, l97.1, l97.2, tb, Ap, hu1, hi2, hu2, hj2, c, w1, w2, hE, hu, lu, lE]
   exact ⟨⟨hp', y0, by omega⟩, g2, gm⟩
  ·simp (disch := omega) only [ewZ, reduceCtorEq, seval, hSS, Ai, p1.1.w, l97.1, l97.2, tb, Ap, hu1, hi2, hu2, hj2, c, w1, w2, hE, hu, ht]
   exact fun b (h : PIx D a b i j) => ⟨(sw b h).2.trans (ih b (sw b h).1).1, (ih b (sw b h).1).2⟩
theorem cQLok : cQ3.OK Tryd.prog G0 := ⟨rfl, mF trivial, mF ⟨okQ1.1, okQ2.1, trivial⟩⟩
theorem okQ3 : IPz 98 pQ3 leQ3 O9 := by
 refine cQLok.loopK muP false 9298 [(9098, leQ1.ent), (9198, leQ2.ent)] ⟨_, _, _, Tryd.func98, rfl, rfl⟩ ?_
 go_invoke
 refine enK rfl ?_
 intro φ l ρ D a ha i hi j hj hp hφ hSS _
 have hp' := hp
 obtain ⟨p1, p2, b0, p3⟩ := hp
 replace p1 : LN D := p1
 replace p3 : PIx D a b0 i j := p3
 have p0 := p1.2
 have p4 := p3
 obtain ⟨q1, q2, q3, q4, q5, q6⟩ := p4
 simp only [ewY, seval] at p2
 have z := okQ1.2 [D, a, i, j] ⟨rfl, ha, hi, hj, trivial⟩ hp'
 obtain ⟨u1, hu1⟩ : ∃ u, leQ1.ent.fn 0 [D, a, i, j] = u := ⟨_, rfl⟩
 obtain ⟨i2, hi2⟩ : ∃ t, IntKind.i64.wrap (leQ1.ent.fn 1 [D, a, i, j]) = t := ⟨_, rfl⟩
 have z : u1 = D /\ i <= i2 /\ i2 <= j + 1 /\ (i2 <= j -> at0 (vl D) a.toNat < at0 (vl D) i2.toNat) /\ ∀ b, PIx D a b i j -> PIx D a b i2 j := by rw [<- hu1, <- hi2]; exact z
 obtain ⟨z1, z2, z3, z4, z5⟩ := z
 have z1 := z1.symm
 subst z1
 have v2 : IntKind.i64.wrap i2 = i2 := i64w (by omega) (by omega)
 have y0 : lbQ2.ent.pre [D, a, i2, j] := ⟨p1, p2, b0, z5 b0 p3⟩
 have y := okQ2.2 [D, a, i2, j] ⟨rfl, ha, v2, hj, trivial⟩ y0
 obtain ⟨u2, hu2⟩ : ∃ u, leQ2.ent.fn 0 [D, a, i2, j] = u := ⟨_, rfl⟩
 obtain ⟨j2, hj2⟩ : ∃ t, IntKind.i64.wrap (leQ2.ent.fn 1 [D, a, i2, j]) = t := ⟨_, rfl⟩
 have y : u2 = D /\ j2 <= j /\ i2 <= j2 + 1 /\ (i2 <= j2 -> at0 (vl D) j2.toNat <= at0 (vl D) a.toNat) /\ ∀ b, PIx D a b i2 j -> PIx D a b i2 j2 := by rw [<- hu2, <- hj2]; exact y
 obtain ⟨y1, y2, y3, y4, y5⟩ := y
 have y1 := y1.symm
 subst y1
 have w1 : IntKind.i64.wrap (i2 + 1) = i2 + 1 := i64w (by omega) (by omega)
 have w2 : IntKind.i64.wrap (j2 - 1) = j2 - 1 := i64w (by omega) (by omega)
 by_cases c : i2 > j2
 ·refine ⟨?_, ?_⟩ <;> simp (disch := omega) only [ewZ, reduceCtorEq, seval, hSS, hu1, hi2, hu2, hj2, c]
  ·exact ⟨hp', y0⟩
  ·exact fun b (h : PIx D a b i j) => ⟨St.refl p1.1 _ _, by have := y5 b (z5 b h); rwa [show j2 = i2 - 1 by omega] at this⟩
 ·have h1 := z4 (by omega)
  have h2 := y4 (by omega)
  have hlt : i2 < j2 := by
   rcases (show i2 < j2 \/ i2 = j2 by omega) with h | e
   ·exact h
   ·rw [e] at h1
    omega
  have sw := fun b (h : PIx D a b i j) => (y5 b (z5 b h)).swap p1.1 p2 hlt (by omega) (by omega)
  have lE := AX D i2.toNat j2.toNat
  obtain ⟨E, hE⟩ : ∃ E, swc D i2.toNat j2.toNat = E := ⟨_, rfl⟩
  rw [hE] at sw lE
  have g2 : lbQ3.ent.pre [E, a, i2 + 1, j2 - 1] := ⟨(sw b0 p3).2.ln p1, p2, b0, (sw b0 p3).1⟩
  have gm : muP [E, a, i2 + 1, j2 - 1] < muP [D, a, i, j] := by show (j2 - 1 + 1 - (i2 + 1)).toNat < (j + 1 - i).toNat; omega
  have ih := hφ [E, a, i2 + 1, j2 - 1] ⟨rfl, ha, w1, w2, trivial⟩ g2 gm
  obtain ⟨u, hu⟩ : ∃ u, φ 0 [E, a, i2 + 1, j2 - 1] = u := ⟨_, rfl⟩
  obtain ⟨r, ht⟩ : ∃ t, IntKind.i64.wrap (φ 1 [E, a, i2 + 1, j2 - 1]) = t := ⟨_, rfl⟩
  have ih : ∀ b, PIx E a b (i2 + 1) (j2 - 1) -> St E u (a + 1) b /\ PIx u a b r (r - 1) := by rw [<- hu, <- ht]; exact ih
  have lu := (ih b0 (sw b0 p3).1).1.len
  refine ⟨?_, ?_⟩
  ·simp (disch := omega) only [ewZ, reduceCtorEq, seval, hSS, Ai, p1.1.w, l97.1, l97.2, tb, Ap, hu1, hi2, hu2, hj2, c, w1, w2, hE, hu, lu, lE]
   exact ⟨⟨hp', y0, by omega⟩, g2, gm⟩
  ·simp (disch := omega) only [ewZ, reduceCtorEq, seval, hSS, Ai, p1.1.w, l97.1, l97.2, tb, Ap, hu1, hi2, hu2, hj2, c, w1, w2, hE, hu, ht]
   exact fun b (h : PIx D a b i j) => ⟨(sw b h).2.trans (ih b (sw b h).1).1, (ih b (sw b h).1).2⟩
theorem cPok : cP.OK Tryd.prog G0 := ⟨rfl, mF trivial, mF ⟨okP1Z.1.1, okP2Z.1.1, okP5.1, trivial⟩⟩
theorem ok99 : EPz e99 O6 := by
 refine cPok.entryK false [(9099, leP1.ent), (9199, leP2.ent), (9499, leP5.ent)] ?_
 go_invoke
 refine enK rfl ?_
 intro l ρ D a ha b hb p hp hp hSS _
 obtain ⟨⟨p1, p2, p3, p4⟩, p5, p6, p7⟩ := hp
 replace p1 : LN D := p1
 have p0 := p1.2
 simp only [ewY, seval] at p2 p3 p4 p5 p6 p7
 have s0 : St D (swc D a.toNat p.toNat) a b := St.swc p1.1 p2 (by omega) (by omega) p4
 have x0 := PIx.start (D := swc D a.toNat p.toNat) p2 p5 (by rw [AX]; exact p4)
 have l0 := AX D a.toNat p.toNat
 obtain ⟨E, hE⟩ : ∃ E, swc D a.toNat p.toNat = E := ⟨_, rfl⟩
 rw [hE] at s0 x0 l0
 have n0 := s0.ln p1
 have w1 : IntKind.i64.wrap (a + 1) = a + 1 := i64w (by omega) (by omega)
 have w2 : IntKind.i64.wrap (b - 1) = b - 1 := i64w (by omega) (by omega)
 have y0 : lbP1.ent.pre [E, a, a + 1, b - 1] := ⟨n0, p2, b, x0⟩
 have z := okP1Z.1.2 [E, a, a + 1, b - 1] ⟨rfl, ha, w1, w2, trivial⟩ y0
 obtain ⟨u1, hu1⟩ : ∃ u, leP1.ent.fn 0 [E, a, a + 1, b - 1] = u := ⟨_, rfl⟩
 obtain ⟨i2, hi2⟩ : ∃ t, IntKind.i64.wrap (leP1.ent.fn 1 [E, a, a + 1, b - 1]) = t := ⟨_, rfl⟩
 have z : u1 = E /\ a + 1 <= i2 /\ i2 <= b - 1 + 1 /\ (i2 <= b - 1 -> at0 (vl E) a.toNat <= at0 (vl E) i2.toNat) /\ ∀ c, PIx E a c (a + 1) (b - 1) -> PIx E a c i2 (b - 1) := by rw [<- hu1, <- hi2]; exact z
 obtain ⟨z1, z2, z3, z4, z5⟩ := z
 have z1 := z1.symm
 subst z1
 have x1 := z5 b x0
 have v2 : IntKind.i64.wrap i2 = i2 := i64w (by omega) (by omega)
 have y1 : lbP2.ent.pre [E, a, i2, b - 1] := ⟨n0, p2, b, x1⟩
 have y := okP2Z.1.2 [E, a, i2, b - 1] ⟨rfl, ha, v2, w2, trivial⟩ y1
 obtain ⟨u2, hu2⟩ : ∃ u, leP2.ent.fn 0 [E, a, i2, b - 1] = u := ⟨_, rfl⟩
 obtain ⟨j2, hj2⟩ : ∃ t, IntKind.i64.wrap (leP2.ent.fn 1 [E, a, i2, b - 1]) = t := ⟨_, rfl⟩
 have y : u2 = E /\ j2 <= b - 1 /\ i2 <= j2 + 1 /\ (i2 <= j2 -> at0 (vl E) j2.toNat < at0 (vl E) a.toNat) /\ ∀ c, PIx E a c i2 (b - 1) -> PIx E a c i2 j2 := by rw [<- hu2, <- hj2]; exact y
 obtain ⟨t1, t2, t3, t4, t5⟩ := y
 have t1 := t1.symm
 subst t1
 have x2 := t5 b x1
 have w3 : IntKind.i64.wrap (i2 + 1) = i2 + 1 := i64w (by omega) (by omega)
 have w4 : IntKind.i64.wrap (j2 - 1) = j2 - 1 := i64w (by omega) (by omega)
 have x3 := x2.2.2.2
 by_cases c : i2 > j2
 ·have x4 := (by rwa [show i2 = j2 + 1 by omega] at x2 : PIx E a b (j2 + 1) j2).done n0.1 p2
  refine ⟨?_, ?_⟩
  ·simp (disch := omega) only [ewZ, reduceCtorEq, seval, hSS, Ai, p1.1.w, n0.1.w, Ap, hE, l0, w1, w2, hu1, hi2, hu2, hj2, c]
   exact ⟨by omega, y0, y1, by omega⟩
  ·simp (disch := omega) only [ewZ, reduceCtorEq, seval, hSS, Ai, p1.1.w, n0.1.w, Ap, hE, w1, w2, hu1, hi2, hu2, hj2, c]
   exact ⟨s0.trans x4.2, x4.1, by show a <= j2; omega, by show j2 < b; omega⟩
 ·have h1 := z4 (by omega)
  have h2 := t4 (by omega)
  have hlt : i2 < j2 := by
   rcases (show i2 < j2 \/ i2 = j2 by omega) with h | e
   ·exact h
   ·rw [e] at h1
    omega
  have x4 := x2.swap n0.1 p2 hlt h1 (by omega)
  have lF := AX E i2.toNat j2.toNat
  obtain ⟨F, hF'⟩ : ∃ F, swc E i2.toNat j2.toNat = F := ⟨_, rfl⟩
  rw [hF'] at x4 lF
  have nF := x4.2.ln n0
  have g2 : lbP5.ent.pre [F, a, i2 + 1, j2 - 1] := ⟨nF, p2, b, x4.1⟩
  have g := okP5.2 [F, a, i2 + 1, j2 - 1] ⟨rfl, ha, w3, w4, trivial⟩ g2
  obtain ⟨u, hu⟩ : ∃ u, leP5.ent.fn 0 [F, a, i2 + 1, j2 - 1] = u := ⟨_, rfl⟩
  obtain ⟨r, hr⟩ : ∃ t, IntKind.i64.wrap (leP5.ent.fn 1 [F, a, i2 + 1, j2 - 1]) = t := ⟨_, rfl⟩
  have g : ∀ c, PIx F a c (i2 + 1) (j2 - 1) -> St F u (a + 1) c /\ PIx u a c (r + 1) r := by rw [<- hu, <- hr]; exact g
  have g := g b x4.1
  have lu := g.1.len
  have nu := g.1.ln nF
  have x5 := g.2.done nu.1 p2
  have x6 := g.2.2.2
  refine ⟨?_, ?_⟩
  ·simp (disch := omega) only [ewZ, reduceCtorEq, seval, hSS, Ai, p1.1.w, n0.1.w, nu.1.w, Ap, hE, hF', l0, lF, lu, w1, w2, w3, w4, hu1, hi2, hu2, hj2, hu, hr, c]
   exact ⟨by omega, y0, y1, by omega, g2, by omega⟩
  ·simp (disch := omega) only [ewZ, reduceCtorEq, seval, hSS, Ai, p1.1.w, n0.1.w, nu.1.w, Ap, hE, hF', w1, w2, w3, w4, hu1, hi2, hu2, hj2, hu, hr, c]
   exact ⟨s0.trans ((x4.2.mono (by omega) (Int.le_refl _)).trans ((g.1.mono (by omega) (Int.le_refl _)).trans x5.2)), x5.1, by show a <= r; omega, by show r < b; omega⟩
theorem cQok : cQ.OK Tryd.prog G0 := ⟨rfl, mF trivial, mF ⟨okQ3.1, trivial⟩⟩
theorem ok98 : EPz e98 Pa := by
 refine cQok.entryK false [(9298, leQ3.ent)] ?_
 go_invoke
 refine enK rfl ?_
 intro l ρ D a ha b hb p hp hp hSS _
 obtain ⟨⟨⟨p1, p2, p3, p4⟩, p5, p6, p7⟩, p8⟩ := hp
 replace p1 : LN D := p1
 replace p8 : ∀ k : Nat, a.toNat <= k -> k < b.toNat -> at0 (vl D) p.toNat <= at0 (vl D) k := p8
 have p0 := p1.2
 simp only [ewY, seval] at p2 p3 p4 p5 p6 p7
 have s0 : St D (swc D a.toNat p.toNat) a b := St.swc p1.1 p2 (by omega) (by omega) p4
 have x0 := PIx.start (D := swc D a.toNat p.toNat) p2 p5 (by rw [AX]; exact p4)
 have l0 := AX D a.toNat p.toNat
 have e0 : at0 (vl (swc D a.toNat p.toNat)) a.toNat = at0 (vl D) p.toNat := by
  rw [CH, Fl (by rw [Au]; omega) (by rw [Au]; omega)]
  by_cases e : a.toNat = p.toNat
  ·rw [if_pos e, e]
  ·rw [if_neg e, if_pos rfl]
 obtain ⟨E, hE⟩ : ∃ E, swc D a.toNat p.toNat = E := ⟨_, rfl⟩
 rw [hE] at s0 x0 l0 e0
 have n0 := s0.ln p1
 have w1 : IntKind.i64.wrap (a + 1) = a + 1 := i64w (by omega) (by omega)
 have w2 : IntKind.i64.wrap (b - 1) = b - 1 := i64w (by omega) (by omega)
 have y0 : lbQ3.ent.pre [E, a, a + 1, b - 1] := ⟨n0, p2, b, x0⟩
 have z := okQ3.2 [E, a, a + 1, b - 1] ⟨rfl, ha, w1, w2, trivial⟩ y0
 obtain ⟨u, hu⟩ : ∃ u, leQ3.ent.fn 0 [E, a, a + 1, b - 1] = u := ⟨_, rfl⟩
 obtain ⟨r, hr⟩ : ∃ t, IntKind.i64.wrap (leQ3.ent.fn 1 [E, a, a + 1, b - 1]) = t := ⟨_, rfl⟩
 have z : ∀ c, PIx E a c (a + 1) (b - 1) -> St E u (a + 1) c /\ PIx u a c r (r - 1) := by rw [<- hu, <- hr]; exact z
 have g := z b x0
 have lu := g.1.len
 have s1 := s0.trans (g.1.mono (by omega : a <= a + 1) (Int.le_refl _))
 have x6 := g.2.2.2
 have e1 : at0 (vl u) a.toNat = at0 (vl D) p.toNat := (g.1.2.out a.toNat (Or.inl (by omega))).trans e0
 have al := s1.2.all (by rw [Au]; omega) (P := fun z => at0 (vl D) p.toNat <= z) p8
 refine ⟨?_, ?_⟩
 ·simp (disch := omega) only [ewZ, reduceCtorEq, seval, hSS, Ai, p1.1.w, n0.1.w, Ap, hE, l0, lu, w1, w2, hu, hr]
  exact ⟨by omega, y0⟩
 ·simp (disch := omega) only [ewZ, reduceCtorEq, seval, hSS, Ai, p1.1.w, n0.1.w, Ap, hE, w1, w2, hu, hr]
  refine ⟨s1, by show a < r; omega, by show r <= b; omega, fun k k1 k2 => ?_, fun k k1 k2 => ?_⟩
  ·show at0 (vl u) k = at0 (vl D) p.toNat
   replace k2 : k < r.toNat := k2
   replace k1 : a.toNat <= k := k1
   have h1 := al k k1 (by omega)
   rcases (show k = a.toNat \/ a.toNat < k by omega) with e | e
   ·rw [e]; exact e1
   ·have := g.2.2.1.lo k e k2
    omega
  ·show at0 (vl D) p.toNat <= at0 (vl u) k
   replace k1 : r.toNat <= k := k1
   exact al k (by omega) k2
end
end Go.Proofs.YtgpflpbldeflhaaDoor.Ew.Sr
set_option maxHeartbeats 8000000
namespace Go.Proofs.YtgpflpbldeflhaaDoor.Ew.Sr
open Go Go.RowKit
noncomputable section
def pO : List Bool := [true,true,false,true,false]
def pI1 : List Bool := pO ++ [false,true,false,false,false,false]
def pI2 : List Bool := pO ++ [false,true,false,false,true,true,true,true,false,true,false,true,false]
def pI3 : List Bool := pO ++ [false,true,false,false,true,true,true,true,true,true,false,true,false]
def preI1 (xs : List Int) : Prop := LN (env xs 0) /\ 1 <= env xs 2 /\ env xs 2 <= env xs 1 /\ env xs 1 <= ((dc (env xs 0)).length : Int)
def Pb (xs ys : List Int) : Prop := env ys 0 = env xs 0 /\ env xs 2 <= env ys 1 /\ env ys 1 <= env xs 1 /\ (env ys 1 < env xs 1 -> at0 (vl (env xs 0)) (env ys 1).toNat < at0 (vl (env xs 0)) (env ys 1 - 1).toNat) /\ ∀ a : Int, 0 <= a -> a < env xs 2 -> So (vl (env xs 0)) a.toNat (env xs 2).toNat -> So (vl (env xs 0)) a.toNat (env ys 1).toNat
def muI1 (xs : List Int) : Nat := (env xs 1 - env xs 2).toNat
def lbI1 : LEnt := ⟨⟨9096, 999999, [Dt, i64, i64], [dO], [], .tup [i64], z0, preI1⟩, [0, 2, 7], [7], (List.range 18).map (· + 17), [.ex 2], 133, []⟩
def leI1 : LEnt := lbI1.fw (fnM Tryd.prog G0 96 pI1 lbI1 Pb)
def preI2 (xs : List Int) : Prop := LN (env xs 0) /\ ∃ a k : Int, 0 <= a /\ a <= env xs 1 /\ env xs 1 <= k /\ k < ((dc (env xs 0)).length : Int) /\ Lb (vl (env xs 0)) a.toNat (k + 1).toNat /\ Ins (vl (env xs 0)) a.toNat k.toNat (env xs 1).toNat
def Pc (xs ys : List Int) : Prop := ∀ a k : Int, 0 <= a -> a <= env xs 1 -> env xs 1 <= k -> k < ((dc (env xs 0)).length : Int) -> Lb (vl (env xs 0)) a.toNat (k + 1).toNat -> Ins (vl (env xs 0)) a.toNat k.toNat (env xs 1).toNat -> St (env xs 0) (env ys 0) a (k + 1) /\ So (vl (env ys 0)) a.toNat (k + 1).toNat
def muI2 (xs : List Int) : Nat := (env xs 1).toNat
def lbI2 : LEnt := ⟨⟨9196, 999999, [Dt, i64], [dO], [], .tup [], z0, preI2⟩, [0, 9], [], [9] ++ (List.range 31).map (· + 64), [.ex 4], 133, []⟩
def leI2 : LEnt := lbI2.fw (fnM Tryd.prog G0 96 pI2 lbI2 Pc)
def preI3 (xs : List Int) : Prop := LN (env xs 0) /\ 1 <= env xs 2 /\ env xs 2 <= env xs 1 /\ env xs 1 <= ((dc (env xs 0)).length : Int)
def Pd (xs ys : List Int) : Prop := St (env xs 0) (env ys 0) (env xs 2 - 1) (env xs 1)
def lbI3 : LEnt := ⟨⟨9296, 999999, [Dt, i64, i64], [dO], [], .tup [], z0, preI3⟩, [0, 2, 10], [], [10] ++ (List.range 32).map (· + 101), [.ex 6], 133, []⟩
def leI3 : LEnt := lbI3.fw (fnM Tryd.prog G0 96 pI3 lbI3 Pd)
def cO : Ctx := ⟨[], [(96, pI1, leI1), (96, pI2, leI2), (96, pI3, leI3)]⟩
def preO (xs : List Int) : Prop := In3 (env xs 0) (env xs 1) (env xs 2) /\ Lb (vl (env xs 0)) (env xs 1).toNat (env xs 2).toNat /\ env xs 1 < env xs 4 /\ env xs 4 <= env xs 2 /\ So (vl (env xs 0)) (env xs 1).toNat (env xs 4).toNat /\ 0 <= env xs 5
def M9 (xs ys : List Int) : Prop := St (env xs 0) (env ys 0) (env xs 1) (env xs 2) /\ (env ys 1 = 0 -> env ys 2 ≠ 0 -> So (vl (env ys 0)) (env xs 1).toNat (env xs 2).toNat)
def muO (xs : List Int) : Nat := (5 - env xs 5).toNat
def lbO : LEnt := ⟨⟨9396, 999999, [Dt, i64, i64, .sc .b, i64, i64], [dO], [], .tup [.sc .b, .sc .b], z0, preO⟩, [0, 1, 2, 6, 7, 8], [6], [7, 8, 9, 10] ++ (List.range 120).map (· + 13), [.ex 0, .ret], 133, []⟩
def leO : LEnt := lbO.fw (fnM Tryd.prog G0 96 pO lbO M9)
def cO6 : Ctx := ⟨[], [(96, pO, leO)]⟩
def pre96 (xs : List Int) : Prop := In3 (env xs 0) (env xs 1) (env xs 2) /\ env xs 1 < env xs 2 /\ Lb (vl (env xs 0)) (env xs 1).toNat (env xs 2).toNat
def Pe (xs ys : List Int) : Prop := St (env xs 0) (env ys 0) (env xs 1) (env xs 2) /\ (env ys 1 ≠ 0 -> So (vl (env ys 0)) (env xs 1).toNat (env xs 2).toNat)
def b96 : Ent := ⟨96, 96, [Dt, i64, i64], [dO], [], .sc .b, z0, pre96⟩
def e96 : Ent := b96.fw (fnG Tryd.prog G0 b96 Pe)
theorem okI1 : IPz 96 pI1 leI1 Pb := by
 refine Co.loopK muI1 false 9096 [(97, e97)] ⟨_, _, _, Tryd.func96, rfl, rfl⟩ ?_
 go_invoke
 refine enK rfl ?_
 intro φ l ρ D b hb i hi hp hφ hSS _
 obtain ⟨p1, p2, p3, p4⟩ := hp
 replace p1 : LN D := p1
 have p0 := p1.2
 simp only [ewY, seval] at p2 p3 p4
 have w1 : IntKind.i64.wrap (i + 1) = i + 1 := i64w (by omega) (by omega)
 have w2 : IntKind.i64.wrap (i - 1) = i - 1 := i64w (by omega) (by omega)
 by_cases c : i < b
 ·by_cases c2 : at0 (vl D) i.toNat < at0 (vl D) (i - 1).toNat
  ·refine ⟨?_, ?_⟩ <;> simp (disch := omega) only [ewZ, reduceCtorEq, seval, hSS, Ai, p1.1.w, l97.1, l97.2, tb, c, c2, w2]
   ·omega
   ·exact ⟨rfl, Int.le_refl _, p3, fun _ => c2, fun a _ _ h => h⟩
  ·have y2 : lbI1.ent.pre [D, b, i + 1] := ⟨p1, by show 1 <= i + 1; omega, by show i + 1 <= b; omega, p4⟩
   have ym : muI1 [D, b, i + 1] < muI1 [D, b, i] := by show (b - (i + 1)).toNat < (b - i).toNat; omega
   have ih := hφ [D, b, i + 1] ⟨rfl, hb, w1, trivial⟩ y2 ym
   obtain ⟨u, hu⟩ : ∃ u, φ 0 [D, b, i + 1] = u := ⟨_, rfl⟩
   obtain ⟨t, ht⟩ : ∃ t, IntKind.i64.wrap (φ 1 [D, b, i + 1]) = t := ⟨_, rfl⟩
   have ih : u = D /\ i + 1 <= t /\ t <= b /\ (t < b -> at0 (vl D) t.toNat < at0 (vl D) (t - 1).toNat) /\ ∀ a : Int, 0 <= a -> a < i + 1 -> So (vl D) a.toNat (i + 1).toNat -> So (vl D) a.toNat t.toNat := by rw [<- hu, <- ht]; exact ih
   obtain ⟨ih1, ih2, ih3, ih4, ih5⟩ := ih
   have ih1 := ih1.symm
   subst ih1
   refine ⟨?_, ?_⟩
   ·simp (disch := omega) only [ewZ, reduceCtorEq, seval, hSS, Ai, p1.1.w, l97.1, l97.2, tb, c, c2, w1, w2, hu]
    exact ⟨by omega, y2, ym⟩
   ·simp (disch := omega) only [ewZ, reduceCtorEq, seval, hSS, Ai, p1.1.w, l97.1, l97.2, tb, c, c2, w1, w2, hu, ht]
    refine ⟨rfl, by show i <= t; omega, ih3, ih4, fun a a1 (a2 : a < i) (a3 : So (vl D) a.toNat i.toNat) => ih5 a a1 (by omega) ?_⟩
    have : So (vl D) a.toNat (i.toNat + 1) := EM (Dd a3) (Nat.le_refl _) (Or.inr (by rw [show i.toNat - 1 = (i - 1).toNat by omega]; omega))
    rwa [show (i + 1).toNat = i.toNat + 1 by omega]
 ·refine ⟨?_, ?_⟩ <;> simp (disch := omega) only [ewZ, reduceCtorEq, seval, hSS, c]
  ·exact ⟨rfl, Int.le_refl _, p3, fun h => absurd h c, fun a _ _ h => h⟩
theorem okI2 : IPz 96 pI2 leI2 Pc := by
 refine Co.loopK muI2 false 9196 [(97, e97)] ⟨_, _, _, Tryd.func96, rfl, rfl⟩ ?_
 go_invoke
 refine enK rfl ?_
 intro φ l ρ D j hj hp hφ hSS _
 obtain ⟨p1, a0, k0, p2, p3, p4, p5, p6, p7⟩ := hp
 replace p1 : LN D := p1
 replace p6 : Lb (vl D) a0.toNat (k0 + 1).toNat := p6
 replace p7 : Ins (vl D) a0.toNat k0.toNat j.toNat := p7
 have p0 := p1.2
 simp only [ewY, seval] at p3 p4 p5
 have w2 : IntKind.i64.wrap (j - 1) = j - 1 := i64w (by omega) (by omega)
 by_cases c : j >= 1
 ·by_cases c2 : at0 (vl D) j.toNat < at0 (vl D) (j - 1).toNat
  ·have e1 : (j - 1).toNat = j.toNat - 1 := by omega
   have gt : ∀ a k : Int, 0 <= a -> a <= j -> j <= k -> Lb (vl D) a.toNat (k + 1).toNat -> a < j := fun a k a1 a2 a3 a4 => by
    rcases (show a < j \/ a = j by omega) with h | h
    ·exact h
    ·have := a4 (by omega) j.toNat (by omega) (by omega)
     rw [h, <- e1] at this
     omega
   have y1 : ∀ a k : Int, 0 <= a -> a <= j -> j <= k -> k < ((dc D).length : Int) -> Lb (vl D) a.toNat (k + 1).toNat -> Ins (vl D) a.toNat k.toNat j.toNat -> Ins (vl (swc D j.toNat (j - 1).toNat)) a.toNat k.toNat (j - 1).toNat /\ Lb (vl (swc D j.toNat (j - 1).toNat)) a.toNat (k + 1).toNat /\ St D (swc D j.toNat (j - 1).toNat) a (k + 1) /\ a <= j - 1 := fun a k a1 a2 a3 a4 a5 a6 => by
    have g := gt a k a1 a2 a3 a5
    have x := Kx a6 (by omega) (by omega) (by rw [Au]; omega) (by rw [<- e1]; omega)
    have s : St D (swc D j.toNat (j - 1).toNat) a (k + 1) := St.swc p1.1 a1 (by omega) (by omega) (by omega)
    refine ⟨?_, a5.sg s.2 (by rw [Au]; omega), s, by omega⟩
    rw [CH, e1]; exact x.1
   have z := y1 a0 k0 p2 p3 p4 p5 p6 p7
   have lE := AX D j.toNat (j - 1).toNat
   obtain ⟨E, hE⟩ : ∃ E, swc D j.toNat (j - 1).toNat = E := ⟨_, rfl⟩
   simp only [hE] at z y1 lE
   have y2 : lbI2.ent.pre [E, j - 1] := ⟨z.2.2.1.ln p1, a0, k0, p2, z.2.2.2, by show j - 1 <= k0; omega, by show k0 < ((dc E).length : Int); omega, z.2.1, z.1⟩
   have ym : muI2 [E, j - 1] < muI2 [D, j] := by show (j - 1).toNat < j.toNat; omega
   have ih := hφ [E, j - 1] ⟨rfl, w2, trivial⟩ y2 ym
   obtain ⟨u, hu⟩ : ∃ u, φ 0 [E, j - 1] = u := ⟨_, rfl⟩
   have ih : ∀ a k : Int, 0 <= a -> a <= j - 1 -> j - 1 <= k -> k < ((dc E).length : Int) -> Lb (vl E) a.toNat (k + 1).toNat -> Ins (vl E) a.toNat k.toNat (j - 1).toNat -> St E u a (k + 1) /\ So (vl u) a.toNat (k + 1).toNat := by rw [<- hu]; exact ih
   have lu := (ih a0 k0 p2 z.2.2.2 (by omega) (by omega) z.2.1 z.1).1.len
   refine ⟨?_, ?_⟩
   ·simp (disch := omega) only [ewZ, reduceCtorEq, seval, hSS, Ai, p1.1.w, l97.1, l97.2, tb, Ap, c, c2, w2, hE, hu, lu, lE]
    exact ⟨by omega, y2, ym⟩
   ·simp (disch := omega) only [ewZ, reduceCtorEq, seval, hSS, Ai, p1.1.w, l97.1, l97.2, tb, Ap, c, c2, w2, hE, hu]
    intro a k a1 (a2 : a <= j) (a3 : j <= k) (a4 : k < ((dc D).length : Int)) (a5 : Lb (vl D) a.toNat (k + 1).toNat) (a6 : Ins (vl D) a.toNat k.toNat j.toNat)
    have x := y1 a k a1 a2 a3 a4 a5 a6
    have y := ih a k a1 x.2.2.2 (by omega) (by omega) x.2.1 x.1
    exact ⟨x.2.2.1.trans y.1, y.2⟩
  ·refine ⟨?_, ?_⟩ <;> simp (disch := omega) only [ewZ, reduceCtorEq, seval, hSS, Ai, p1.1.w, l97.1, l97.2, tb, Ap, c, c2, w2]
   ·omega
   ·intro a k a1 (a2 : a <= j) (a3 : j <= k) (a4 : k < ((dc D).length : Int)) (a5 : Lb (vl D) a.toNat (k + 1).toNat) (a6 : Ins (vl D) a.toNat k.toNat j.toNat)
    have := EM a6 (by omega) (Or.inr (by rw [show j.toNat - 1 = (j - 1).toNat by omega]; omega))
    exact ⟨St.refl p1.1 _ _, by show So (vl D) a.toNat (k + 1).toNat; rwa [show (k + 1).toNat = k.toNat + 1 by omega]⟩
 ·refine ⟨?_, ?_⟩ <;> simp (disch := omega) only [ewZ, reduceCtorEq, seval, hSS, c]
  ·intro a k a1 (a2 : a <= j) (a3 : j <= k) (a4 : k < ((dc D).length : Int)) (a5 : Lb (vl D) a.toNat (k + 1).toNat) (a6 : Ins (vl D) a.toNat k.toNat j.toNat)
   have := EM a6 (by omega) (Or.inl (by omega))
   exact ⟨St.refl p1.1 _ _, by show So (vl D) a.toNat (k + 1).toNat; rwa [show (k + 1).toNat = k.toNat + 1 by omega]⟩
theorem okI3 : IPz 96 pI3 leI3 Pd := by
 refine Co.loopK muI1 false 9296 [(97, e97)] ⟨_, _, _, Tryd.func96, rfl, rfl⟩ ?_
 go_invoke
 refine enK rfl ?_
 intro φ l ρ D b hb j hj hp hφ hSS _
 obtain ⟨p1, p2, p3, p4⟩ := hp
 replace p1 : LN D := p1
 have p0 := p1.2
 simp only [ewY, seval] at p2 p3 p4
 have w1 : IntKind.i64.wrap (j + 1) = j + 1 := i64w (by omega) (by omega)
 have w2 : IntKind.i64.wrap (j - 1) = j - 1 := i64w (by omega) (by omega)
 by_cases c : j < b
 ·by_cases c2 : at0 (vl D) j.toNat < at0 (vl D) (j - 1).toNat
  ·have s : St D (swc D j.toNat (j - 1).toNat) (j - 1) b := St.swc p1.1 (by omega) (by omega) (by omega) (by omega)
   have lE := AX D j.toNat (j - 1).toNat
   obtain ⟨E, hE⟩ : ∃ E, swc D j.toNat (j - 1).toNat = E := ⟨_, rfl⟩
   rw [hE] at s lE
   have y2 : lbI3.ent.pre [E, b, j + 1] := ⟨s.ln p1, by show 1 <= j + 1; omega, by show j + 1 <= b; omega, by show b <= ((dc E).length : Int); omega⟩
   have ym : muI1 [E, b, j + 1] < muI1 [D, b, j] := by show (b - (j + 1)).toNat < (b - j).toNat; omega
   have ih := hφ [E, b, j + 1] ⟨rfl, hb, w1, trivial⟩ y2 ym
   obtain ⟨u, hu⟩ : ∃ u, φ 0 [E, b, j + 1] = u := ⟨_, rfl⟩
   have ih : St E u (j + 1 - 1) b := by rw [<- hu]; exact ih
   have lu := ih.len
   refine ⟨?_, ?_⟩
   ·simp (disch := omega) only [ewZ, reduceCtorEq, seval, hSS, Ai, p1.1.w, l97.1, l97.2, tb, Ap, c, c2, w1, w2, hE, hu, lu, lE]
    exact ⟨by omega, y2, ym⟩
   ·simp (disch := omega) only [ewZ, reduceCtorEq, seval, hSS, Ai, p1.1.w, l97.1, l97.2, tb, Ap, c, c2, w1, w2, hE, hu]
    exact s.trans (ih.mono (by omega) (Int.le_refl _))
  ·refine ⟨?_, ?_⟩ <;> simp (disch := omega) only [ewZ, reduceCtorEq, seval, hSS, Ai, p1.1.w, l97.1, l97.2, tb, Ap, c, c2, w2]
   ·omega
   ·exact St.refl p1.1 _ _
 ·refine ⟨?_, ?_⟩ <;> simp (disch := omega) only [ewZ, reduceCtorEq, seval, hSS, c]
  ·exact St.refl p1.1 _ _
theorem bit1 (z : Int) : (if i2b (K.b.norm z) = true then (1 : Int) else 0) = K.b.norm z := by
 by_cases h : z = 0
 ·subst h; rfl
 ·simp [K.norm, i2b, b2i, h]
theorem cOok : cO.OK Tryd.prog G0 := ⟨rfl, mF trivial, mF ⟨okI1.1, okI2.1, okI3.1, trivial⟩⟩
theorem okO : IPz 96 pO leO M9 := by
 refine cOok.loopK muO false 9396 [(9096, leI1.ent), (9196, leI2.ent), (9296, leI3.ent)] ⟨_, _, _, Tryd.func96, rfl, rfl⟩ ?_
 go_invoke
 refine enK rfl ?_
 intro φ l ρ D a ha b hb t ht i hi j hj hp hφ hSS _
 obtain ⟨⟨p1, p2, p3, p4⟩, p5, p6, p7, p8, p9⟩ := hp
 replace p1 : LN D := p1
 replace p5 : Lb (vl D) a.toNat b.toNat := p5
 replace p8 : So (vl D) a.toNat i.toNat := p8
 have p0 := p1.2
 simp only [ewY, seval] at p2 p3 p4 p6 p7 p9
 by_cases c : j < 5
 ·have y0 : lbI1.ent.pre [D, b, i] := ⟨p1, by show 1 <= i; omega, p7, p4⟩
  have z := okI1.2 [D, b, i] ⟨rfl, hb, hi, trivial⟩ y0
  obtain ⟨u1, hu1⟩ : ∃ u, leI1.ent.fn 0 [D, b, i] = u := ⟨_, rfl⟩
  obtain ⟨r, hr⟩ : ∃ t, IntKind.i64.wrap (leI1.ent.fn 1 [D, b, i]) = t := ⟨_, rfl⟩
  have z : u1 = D /\ i <= r /\ r <= b /\ (r < b -> at0 (vl D) r.toNat < at0 (vl D) (r - 1).toNat) /\ ∀ a : Int, 0 <= a -> a < i -> So (vl D) a.toNat i.toNat -> So (vl D) a.toNat r.toNat := by rw [<- hu1, <- hr]; exact z
  obtain ⟨z1, z2, z3, z4, z5⟩ := z
  have z1 := z1.symm
  subst z1
  have so := z5 a p2 p6 p8
  have w0 : IntKind.i64.wrap r = r := i64w (by omega) (by omega)
  have w1 : IntKind.i64.wrap (b - a) = b - a := i64w (by omega) (by omega)
  by_cases c2 : r = b
  ·refine ⟨?_, ?_⟩ <;> simp (disch := omega) only [ewZ, reduceCtorEq, seval, hSS, c, hu1, hr, c2]
   ·exact y0
   ·rw [c2] at so
    exact ⟨St.refl p1.1 _ _, fun _ _ => so⟩
  ·by_cases c3 : b - a < 50
   ·refine ⟨?_, ?_⟩ <;> simp (disch := omega) only [ewZ, reduceCtorEq, seval, hSS, c, hu1, hr, c2, c3, w1]
    ·exact y0
    ·exact ⟨St.refl p1.1 _ _, fun _ h => absurd (show b2i (r == b) = 0 by rw [beq_eq_false_iff_ne.2 c2]; rfl) h⟩
   ·have w2 : IntKind.i64.wrap (r - 1) = r - 1 := i64w (by omega) (by omega)
    have w3 : IntKind.i64.wrap (r - a) = r - a := i64w (by omega) (by omega)
    have w4 : IntKind.i64.wrap (b - r) = b - r := i64w (by omega) (by omega)
    have w5 : IntKind.i64.wrap (r + 1) = r + 1 := i64w (by omega) (by omega)
    have w6 : IntKind.i64.wrap (j + 1) = j + 1 := i64w (by omega) (by omega)
    have s1 : St D (swc D r.toNat (r - 1).toNat) (r - 1) (r + 1) := St.swc p1.1 (by omega) (by omega) (by omega) (by omega)
    have lE := AX D r.toNat (r - 1).toNat
    obtain ⟨E, hE⟩ : ∃ E, swc D r.toNat (r - 1).toNat = E := ⟨_, rfl⟩
    rw [hE] at s1 lE
    have n1 := s1.ln p1
    have s2 : St D E a b := s1.mono (by omega) (by omega)
    have b1 := p5.sg s2.2 (by rw [Au]; omega)
    have so1 : So (vl E) a.toNat (r - 1).toNat := So.out (fun x y h1 h2 h3 => so x y h1 h2 (by omega)) s1.2 (Or.inl (Nat.le_refl _))
    have nxt : ∀ W, St D W a b -> So (vl W) a.toNat r.toNat -> lbO.ent.pre [W, a, b, t, r, j + 1] /\ muO [W, a, b, t, r, j + 1] < muO [D, a, b, t, i, j] /\ (dc (φ 0 [W, a, b, t, r, j + 1])).length = (dc D).length /\ M9 [D, a, b, t, i, j] [φ 0 [W, a, b, t, r, j + 1], K.b.norm (φ 1 [W, a, b, t, r, j + 1]), K.b.norm (φ 2 [W, a, b, t, r, j + 1])] := fun W hW hS => by
     have y2 : lbO.ent.pre [W, a, b, t, r, j + 1] := ⟨⟨hW.ln p1, p2, p3, by show b <= ((dc W).length : Int); rw [hW.len]; exact p4⟩, p5.sg hW.2 (by rw [Au]; omega), by show a < r; omega, z3, hS, by show 0 <= j + 1; omega⟩
     have ym : muO [W, a, b, t, r, j + 1] < muO [D, a, b, t, i, j] := by show (5 - (j + 1)).toNat < (5 - j).toNat; omega
     have ih := hφ [W, a, b, t, r, j + 1] ⟨rfl, ha, hb, ht, w0, w6, trivial⟩ y2 ym
     exact ⟨y2, ym, (St.len ih.1).trans hW.len, hW.trans ih.1, ih.2⟩
    by_cases c4 : r - a >= 2
    ·have g2 : lbI2.ent.pre [E, r - 1] := ⟨n1, a, r - 1, p2, by show a <= r - 1; omega, Int.le_refl _, by show r - 1 < ((dc E).length : Int); omega, fun h k h1 h2 => b1 h k h1 (by omega), Dd so1⟩
     have g := okI2.2 [E, r - 1] ⟨rfl, w2, trivial⟩ g2
     obtain ⟨V, hV⟩ : ∃ u, leI2.ent.fn 0 [E, r - 1] = u := ⟨_, rfl⟩
     have g : ∀ a k : Int, 0 <= a -> a <= r - 1 -> r - 1 <= k -> k < ((dc E).length : Int) -> Lb (vl E) a.toNat (k + 1).toNat -> Ins (vl E) a.toNat k.toNat (r - 1).toNat -> St E V a (k + 1) /\ So (vl V) a.toNat (k + 1).toNat := by rw [<- hV]; exact g
     have g := g a (r - 1) p2 (by omega) (Int.le_refl _) (by omega) (fun h k h1 h2 => b1 h k h1 (by omega)) (Dd so1)
     rw [show r - 1 + 1 = r by omega] at g
     have lV := g.1.len
     have nV := g.1.ln n1
     have sV : St D V a b := s2.trans (g.1.mono (Int.le_refl _) (by omega))
     by_cases c5 : b - r >= 2
     ·have k2 : lbI3.ent.pre [V, b, r + 1] := ⟨nV, by show 1 <= r + 1; omega, by show r + 1 <= b; omega, by show b <= ((dc V).length : Int); omega⟩
      have k := okI3.2 [V, b, r + 1] ⟨rfl, hb, w5, trivial⟩ k2
      obtain ⟨W, hW⟩ : ∃ u, leI3.ent.fn 0 [V, b, r + 1] = u := ⟨_, rfl⟩
      have k : St V W (r + 1 - 1) b := by rw [<- hW]; exact k
      have lW := k.len
      obtain ⟨x1, x2, x3, x4⟩ := nxt W (sV.trans (k.mono (by omega) (Int.le_refl _))) (g.2.out k.2 (Or.inl (by omega)))
      refine ⟨?_, ?_⟩
      ·simp (disch := omega) only [ewZ, reduceCtorEq, seval, hSS, Ai, p1.1.w, Ap, c, hu1, hr, c2, c3, w1, w2, w3, w4, w5, w6, hE, lE, c4, c5, hV, hW, lV, lW, x3]
       exact ⟨⟨y0, by omega, g2, k2⟩, x1, x2⟩
      ·simp (disch := omega) only [ewZ, reduceCtorEq, seval, hSS, Ai, p1.1.w, Ap, c, hu1, hr, c2, c3, w1, w2, w3, w4, w5, w6, hE, lE, c4, c5, hV, hW]
       simp only [ite_self, bit1]
       exact x4
     ·obtain ⟨x1, x2, x3, x4⟩ := nxt V sV g.2
      refine ⟨?_, ?_⟩
      ·simp (disch := omega) only [ewZ, reduceCtorEq, seval, hSS, Ai, p1.1.w, Ap, c, hu1, hr, c2, c3, w1, w2, w3, w4, w5, w6, hE, lE, c4, c5, hV, lV, x3]
       exact ⟨⟨y0, by omega, g2⟩, x1, x2⟩
      ·simp (disch := omega) only [ewZ, reduceCtorEq, seval, hSS, Ai, p1.1.w, Ap, c, hu1, hr, c2, c3, w1, w2, w3, w4, w5, w6, hE, lE, c4, c5, hV]
       simp only [ite_self, bit1]
       exact x4
    ·by_cases c5 : b - r >= 2
     ·have k2 : lbI3.ent.pre [E, b, r + 1] := ⟨n1, by show 1 <= r + 1; omega, by show r + 1 <= b; omega, by show b <= ((dc E).length : Int); omega⟩
      have k := okI3.2 [E, b, r + 1] ⟨rfl, hb, w5, trivial⟩ k2
      obtain ⟨W, hW⟩ : ∃ u, leI3.ent.fn 0 [E, b, r + 1] = u := ⟨_, rfl⟩
      have k : St E W (r + 1 - 1) b := by rw [<- hW]; exact k
      have lW := k.len
      obtain ⟨x1, x2, x3, x4⟩ := nxt W (s2.trans (k.mono (by omega) (Int.le_refl _))) (So.small (by omega))
      refine ⟨?_, ?_⟩
      ·simp (disch := omega) only [ewZ, reduceCtorEq, seval, hSS, Ai, p1.1.w, Ap, c, hu1, hr, c2, c3, w1, w2, w3, w4, w5, w6, hE, lE, c4, c5, hW, lW, x3]
       exact ⟨⟨y0, by omega, k2⟩, x1, x2⟩
      ·simp (disch := omega) only [ewZ, reduceCtorEq, seval, hSS, Ai, p1.1.w, Ap, c, hu1, hr, c2, c3, w1, w2, w3, w4, w5, w6, hE, lE, c4, c5, hW]
       simp only [ite_self, bit1]
       exact x4
     ·obtain ⟨x1, x2, x3, x4⟩ := nxt E s2 (So.small (by omega))
      refine ⟨?_, ?_⟩
      ·simp (disch := omega) only [ewZ, reduceCtorEq, seval, hSS, Ai, p1.1.w, Ap, c, hu1, hr, c2, c3, w1, w2, w3, w4, w5, w6, hE, lE, c4, c5, x3]
       exact ⟨⟨y0, by omega⟩, x1, x2⟩
      ·simp (disch := omega) only [ewZ, reduceCtorEq, seval, hSS, Ai, p1.1.w, Ap, c, hu1, hr, c2, c3, w1, w2, w3, w4, w5, w6, hE, lE, c4, c5]
       simp only [ite_self, bit1]
       exact x4
 ·refine ⟨?_, ?_⟩ <;> simp (disch := omega) only [ewZ, reduceCtorEq, seval, hSS, c]
  ·exact ⟨St.refl p1.1 _ _, fun h => by cases h⟩
theorem bit2 {x y : Int} (h : b2i (!i2b (K.b.norm x) && i2b (K.b.norm y)) ≠ 0) : K.b.norm x = 0 /\ K.b.norm y ≠ 0 := by
 refine ⟨Classical.byContradiction fun h1 => h ?_, fun h1 => h ?_⟩
 ·show (bif !!(K.b.norm x == 0) && !(K.b.norm y == 0) then (1 : Int) else 0) = 0
  rw [beq_eq_false_iff_ne.2 h1]; rfl
 ·show (bif !!(K.b.norm x == 0) && !(K.b.norm y == 0) then (1 : Int) else 0) = 0
  rw [h1]; cases (K.b.norm x == 0) <;> rfl
theorem cO6ok : cO6.OK Tryd.prog G0 := ⟨rfl, mF trivial, mF ⟨okO.1, trivial⟩⟩
theorem ok96 : EPz e96 Pe := by
 refine cO6ok.entryK false [(9396, leO.ent)] ?_
 go_invoke
 refine enK rfl ?_
 intro l ρ D a ha b hb hp hSS _
 obtain ⟨⟨p1, p2, p3, p4⟩, p5, p6⟩ := hp
 replace p1 : LN D := p1
 have p0 := p1.2
 simp only [ewY, seval] at p2 p3 p4 p5
 have w1 : IntKind.i64.wrap (a + 1) = a + 1 := i64w (by omega) (by omega)
 have y0 : lbO.ent.pre [D, a, b, 0, a + 1, 0] := ⟨⟨p1, p2, p3, p4⟩, p6, by show a < a + 1; omega, by show a + 1 <= b; omega, So.small (by show (a + 1).toNat <= a.toNat + 1; omega), Int.le_refl _⟩
 have z := okO.2 [D, a, b, 0, a + 1, 0] ⟨rfl, ha, hb, rfl, w1, rfl, trivial⟩ y0
 have lz := z.1.len
 obtain ⟨w, hw⟩ : ∃ w, leO.ent.fn 0 [D, a, b, 0, a + 1, 0] = w := ⟨_, rfl⟩
 obtain ⟨x1, h1⟩ : ∃ w, leO.ent.fn 1 [D, a, b, 0, a + 1, 0] = w := ⟨_, rfl⟩
 obtain ⟨x2, h2⟩ : ∃ w, leO.ent.fn 2 [D, a, b, 0, a + 1, 0] = w := ⟨_, rfl⟩
 have z : St D w a b /\ (K.b.norm x1 = 0 -> K.b.norm x2 ≠ 0 -> So (vl w) a.toNat b.toNat) := by rw [<- hw, <- h1, <- h2]; exact z
 have zl := z.1.len
 refine ⟨?_, ?_⟩
 ·simp (disch := omega) only [ewZ, reduceCtorEq, seval, hSS, w1, hw, zl]
  exact y0
 ·simp (disch := omega) only [ewZ, reduceCtorEq, seval, hSS, w1, hw, h1, h2]
  exact ⟨z.1, fun h => z.2 (bit2 h).1 (bit2 h).2⟩
end
end Go.Proofs.YtgpflpbldeflhaaDoor.Ew.Sr
