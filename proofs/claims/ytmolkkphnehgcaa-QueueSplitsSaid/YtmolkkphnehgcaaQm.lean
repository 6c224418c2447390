/- Layer 17, plain: lists of timers in order, the map of the same timers. -/
import Derived.Test.YtmolkkphnehgcaaQf
set_option linter.unusedVariables false
set_option linter.unusedSimpArgs false
namespace Go.Proofs.Ytmolkkphnehgcaa.Ew
open Go Go.RowKit
noncomputable section

def idR (r : List Int) : Int := r.getD 0 0
def dlR (r : List Int) : Int := r.getD 1 0
theorem ltT_irr (a : List Int) : ltT a a = false := by simp [ltT]
theorem ltT_iff {a b : List Int} : ltT a b = true ↔ dlR a < dlR b ∨ (dlR a = dlR b ∧ idR a < idR b) := by
  simp only [ltT, dlR, idR, Bool.or_eq_true, Bool.and_eq_true, decide_eq_true_eq]

theorem take_cnt {t : List Int} : ∀ {l : RL}, srtT l → l.take (cnt l t) = l.filter (fun r => ltT r t) ∧ l.drop (cnt l t) = l.filter (fun r => !ltT r t)
  | [], _ => ⟨rfl, rfl⟩
  | r :: l, h => by
    obtain ⟨s1, s2⟩ := List.pairwise_cons.1 h
    obtain ⟨i1, i2⟩ := take_cnt (t := t) s2
    rw [cnt_cons]
    by_cases hr : ltT r t = true
    · rw [if_pos hr, Nat.add_comm, List.take_succ_cons, List.drop_succ_cons, i1, i2]
      simp [List.filter_cons, hr]
    · have hz : ∀ x ∈ l, ¬ ltT x t = true := fun x hx h' => hr (ltT_trans (s1 x hx) h')
      have h0 : cnt l t = 0 := by
        unfold cnt
        rw [List.filter_eq_nil_iff.2 hz]; rfl
      rw [if_neg hr, h0]
      refine ⟨?_, ?_⟩
      · simp only [Nat.add_zero, List.take_zero]
        symm
        rw [List.filter_eq_nil_iff]
        intro x hx
        rcases List.mem_cons.1 hx with rfl | hx
        · exact hr
        · exact hz x hx
      · simp only [Nat.add_zero, List.drop_zero]
        symm
        rw [List.filter_eq_self]
        intro x hx
        rcases List.mem_cons.1 hx with rfl | hx
        · simpa using hr
        · simpa using hz x hx

/-- Two lists in order of the same timers are the same. -/
theorem srt_eq : ∀ {a b : RL}, srtT a → srtT b → a.Perm b → a = b
  | [], b, _, _, h => (List.nil_perm.1 h).symm
  | x :: a, [], _, _, h => absurd h.length_eq (by simp)
  | x :: a, y :: b, ha, hb, h => by
    obtain ⟨a1, a2⟩ := List.pairwise_cons.1 ha
    obtain ⟨b1, b2⟩ := List.pairwise_cons.1 hb
    have hxy : x = y := by
      rcases List.mem_cons.1 (h.subset (List.mem_cons_self ..)) with e | hx
      · exact e
      · rcases List.mem_cons.1 (h.symm.subset (List.mem_cons_self ..)) with e | hy
        · exact e.symm
        · have := ltT_trans (a1 y hy) (b1 x hx)
          rw [ltT_irr] at this; cases this
    subst hxy
    rw [srt_eq a2 b2 (List.Perm.cons_inv h)]

def delT (i : Int) (T : RL) : RL := T.filter fun r => idR r != i
def insT (t : List Int) (T : RL) : RL := T.take (cnt T t) ++ [t] ++ T.drop (cnt T t)

structure QI (now : Int) (T M : RL) : Prop where
  srt : srtT T
  row : rowsOK tmK T
  mrt : SortedR 1 M
  perm : T.Perm M
  rng : ∀ r ∈ T, 0 ≤ idR r ∧ idR r < 4096 ∧ now < dlR r ∧ dlR r ≤ now + 2147483648
  tim : 0 ≤ now ∧ now ≤ 1099511627776

theorem row_eq {r : List Int} (h : fits tmK r) : ∃ i d, r = [i, d] ∧ IntKind.i64.wrap i = i ∧ IntKind.i64.wrap d = d := by
  match r, h with
  | [i, d], h => exact ⟨i, d, rfl, h.1, h.2.1⟩

theorem QI.uid {now : Int} {T M : RL} (h : QI now T M) : ∀ {a b : List Int}, a ∈ T → b ∈ T → idR a = idR b → a = b := by
  intro a b ha hb hab
  have hne := h.mrt.ne
  obtain ⟨i, d, rfl, _⟩ := row_eq (h.row a ha)
  obtain ⟨j, e, rfl, _⟩ := row_eq (h.row b hb)
  have hij : i = j := hab
  subst hij
  by_cases hde : d = e
  · rw [hde]
  · exfalso
    have ha' := h.perm.subset ha
    have hb' := h.perm.subset hb
    have : ∀ {l : RL}, l.Pairwise (fun a b => a.take 1 ≠ b.take 1) → [i, d] ∈ l → [i, e] ∈ l → False := by
      intro l hl h1 h2
      induction l with
      | nil => cases h1
      | cons x l ih =>
        obtain ⟨p1, p2⟩ := List.pairwise_cons.1 hl
        rcases List.mem_cons.1 h1 with g1 | g1
        · rcases List.mem_cons.1 h2 with g2 | g2
          · rw [← g1] at g2; simp at g2; exact hde g2.symm
          · exact p1 _ g2 (by rw [← g1]; rfl)
        · rcases List.mem_cons.1 h2 with g2 | g2
          · exact p1 _ g1 (by rw [← g2]; rfl)
          · exact ih p2 g1 g2
    exact this hne ha' hb'

theorem len_le : ∀ {l : RL} {a b : Int}, SortedR 1 l → rowsOK tmK l → (∀ r ∈ l, a ≤ idR r ∧ idR r < b) → a ≤ b → (l.length : Int) ≤ b - a
  | [], a, b, _, _, _, h => by simp; omega
  | r :: l, a, b, hs, hr, hb, hab => by
    obtain ⟨s1, s2⟩ := SortedR.cons.1 hs
    obtain ⟨r1, r2⟩ := hb r (List.mem_cons_self ..)
    have := len_le (a := idR r + 1) (b := b) s2 (fun x hx => hr x (List.mem_cons_of_mem _ hx)) (fun x hx => by
      obtain ⟨i, d, rfl, _⟩ := row_eq (hr r (List.mem_cons_self ..))
      obtain ⟨j, e, rfl, _⟩ := row_eq (hr x (List.mem_cons_of_mem _ hx))
      have h1 := s1 _ hx
      have h2 := (hb _ (List.mem_cons_of_mem _ hx)).2
      refine ⟨?_, h2⟩
      simp only [List.take, ltR] at h1
      show i + 1 ≤ j
      by_cases hij : i < j
      · omega
      · simp [hij] at h1) (by omega)
    simp only [List.length_cons]; omega

theorem QI.len {now : Int} {T M : RL} (h : QI now T M) : (T.length : Int) ≤ 4096 := by
  have := len_le (a := 0) (b := 4096) h.mrt (fun r hr => h.row r (h.perm.symm.subset hr)) (fun r hr => by
    have := h.rng r (h.perm.symm.subset hr); omega) (by omega)
  rw [h.perm.length_eq]; omega

/-- What a key of the map says. -/
theorem QI.has {now : Int} {T M : RL} (h : QI now T M) (i : Int) : (M.any fun r => r.take [i].length == [i]) = true ↔ ∃ d, [i, d] ∈ T := by
  rw [List.any_eq_true]
  constructor
  · rintro ⟨r, hr, he⟩
    obtain ⟨j, d, rfl, _⟩ := row_eq (h.row r (h.perm.symm.subset hr))
    simp at he
    subst he
    exact ⟨d, h.perm.symm.subset hr⟩
  · rintro ⟨d, hd⟩
    exact ⟨_, h.perm.subset hd, by simp⟩
theorem QI.val {now : Int} {T M : RL} (h : QI now T M) {i d : Int} (hd : [i, d] ∈ T) (x : List Int) : ((M.find? fun r => r.take [i].length == [i]).getD x) = [i, d] := by
  cases hf : M.find? (fun r => r.take [i].length == [i]) with
  | none =>
    rw [List.find?_eq_none] at hf
    exact absurd (by simp) (hf _ (h.perm.subset hd))
  | some r =>
    have h1 := List.mem_of_find?_eq_some hf
    have h2 := List.find?_some hf
    have h3 := h.perm.symm.subset h1
    obtain ⟨j, e, rfl, _⟩ := row_eq (h.row r h3)
    have : j = i := by simpa using h2
    subst this
    simp only [Option.getD_some]
    exact h.uid h3 hd rfl

theorem srt_del {T : RL} (h : srtT T) (i : Int) : srtT (delT i T) := List.Pairwise.filter _ h
theorem drop_eq {now : Int} {T M : RL} (h : QI now T M) {i d : Int} (hd : [i, d] ∈ T) : T.take (cnt T [i, d]) ++ T.drop (cnt T [i, d] + 1) = delT i T := by
  obtain ⟨t1, t2⟩ := take_cnt (t := [i, d]) h.srt
  have hk : cnt T [i, d] < T.length := by
    have hm : [i, d] ∈ T.drop (cnt T [i, d]) := by rw [t2]; exact List.mem_filter.2 ⟨hd, by simp [ltT_irr]⟩
    have := List.length_pos_of_mem hm
    rw [List.length_drop] at this; omega
  have hc : T.drop (cnt T [i, d]) = T[cnt T [i, d]] :: T.drop (cnt T [i, d] + 1) := List.drop_eq_getElem_cons hk
  have hsd : srtT (T.drop (cnt T [i, d])) := List.Pairwise.sublist (List.drop_sublist _ _) h.srt
  have hfirst : T[cnt T [i, d]] = [i, d] := by
    have hm : [i, d] ∈ T.drop (cnt T [i, d]) := by rw [t2]; exact List.mem_filter.2 ⟨hd, by simp [ltT_irr]⟩
    rw [hc] at hm hsd
    rcases List.mem_cons.1 hm with e | hm
    · exact e.symm
    · have h1 := (List.pairwise_cons.1 hsd).1 _ hm
      have h2 : T[cnt T [i, d]] ∈ T.drop (cnt T [i, d]) := by rw [hc]; exact List.mem_cons_self ..
      rw [t2] at h2
      have := (List.mem_filter.1 h2).2
      simp [h1] at this
  apply srt_eq
  · refine List.Pairwise.sublist ?_ h.srt
    have := (List.sublist_cons_self (T[cnt T [i, d]]) (T.drop (cnt T [i, d] + 1)))
    rw [← hc] at this
    have := List.Sublist.append (List.Sublist.refl (T.take (cnt T [i, d]))) this
    rwa [List.take_append_drop] at this
  · exact srt_del h.srt i
  · have hT : T.Perm ([i, d] :: (T.take (cnt T [i, d]) ++ T.drop (cnt T [i, d] + 1))) := by
      conv => lhs; rw [← List.take_append_drop (cnt T [i, d]) T, hc, hfirst]
      exact List.perm_middle
    have hnd : ∀ x ∈ T.take (cnt T [i, d]) ++ T.drop (cnt T [i, d] + 1), idR x ≠ i := by
      intro x hx e
      have hxT : x ∈ T := hT.symm.subset (List.mem_cons_of_mem _ hx)
      have hxe : x = [i, d] := h.uid hxT hd e
      subst hxe
      have hs : srtT ([i, d] :: T.drop (cnt T [i, d] + 1)) := by rw [hc, hfirst] at hsd; exact hsd
      rcases List.mem_append.1 hx with hx | hx
      · rw [t1] at hx
        have := (List.mem_filter.1 hx).2
        rw [ltT_irr] at this; cases this
      · have := (List.pairwise_cons.1 hs).1 _ hx
        rw [ltT_irr] at this; cases this
    have := hT.filter (fun r => idR r != i)
    rw [List.filter_cons_of_neg (by simp [idR])] at this
    have hself : (T.take (cnt T [i, d]) ++ T.drop (cnt T [i, d] + 1)).filter (fun r => idR r != i) = T.take (cnt T [i, d]) ++ T.drop (cnt T [i, d] + 1) := List.filter_eq_self.2 (fun x hx => by simpa using hnd x hx)
    rw [hself] at this
    exact this.symm

theorem QI.del {now : Int} {T M : RL} (h : QI now T M) (i : Int) : QI now (delT i T) (delR [i] M) := by
  have hd : delR [i] M = M.filter fun r => idR r != i := by
    rw [delR_filter (n := 1) rfl h.mrt]
    apply List.filter_congr
    intro r hr
    obtain ⟨j, e, rfl, _⟩ := row_eq (h.row r (h.perm.symm.subset hr))
    simp only [List.take, idR, List.getD_cons_zero, bne]
    congr 1
    by_cases hj : j = i <;> simp [hj]
  refine ⟨srt_del h.srt i, fun r hr => h.row r (List.mem_filter.1 hr).1, delR_sorted (k := [i]) (n := 1) rfl h.mrt, by rw [hd]; exact h.perm.filter _, fun r hr => h.rng r (List.mem_filter.1 hr).1, h.tim⟩

theorem srt_ins {T : RL} (h : srtT T) {t : List Int} (hn : ∀ x ∈ T, ltT x t = true ∨ ltT t x = true) : srtT (insT t T) := by
  obtain ⟨t1, t2⟩ := take_cnt (t := t) h
  unfold insT srtT
  rw [t1, t2]
  rw [List.append_assoc, List.pairwise_append]
  refine ⟨List.Pairwise.filter _ h, ?_, ?_⟩
  · rw [List.singleton_append, List.pairwise_cons]
    refine ⟨fun x hx => ?_, List.Pairwise.filter _ h⟩
    have hx' := List.mem_filter.1 hx
    rcases hn x hx'.1 with h1 | h1
    · simp [h1] at hx'
    · exact h1
  · intro a ha b hb
    have ha' := (List.mem_filter.1 ha).2
    rcases List.mem_append.1 hb with hb | hb
    · rw [List.mem_singleton.1 hb]; exact ha'
    · have hb' := List.mem_filter.1 hb
      rcases hn b hb'.1 with h1 | h1
      · simp [h1] at hb'
      · exact ltT_trans ha' h1
theorem perm_ins (t : List Int) (T : RL) : (insT t T).Perm (t :: T) := by
  unfold insT
  rw [List.append_assoc, List.singleton_append]
  exact List.perm_middle.trans (by rw [List.take_append_drop])
theorem lt_tot {i d : Int} {x : List Int} (hx : fits tmK x) (h : idR x ≠ i) : ltT x [i, d] = true ∨ ltT [i, d] x = true := by
  obtain ⟨j, e, rfl, _⟩ := row_eq hx
  simp only [ltT_iff, dlR, idR, List.getD_cons_succ, List.getD_cons_zero] at h ⊢
  omega
theorem QI.ins {now : Int} {T M : RL} (h : QI now T M) {i d : Int} (hi : ∀ x ∈ T, idR x ≠ i) (h1 : 0 ≤ i) (h2 : i < 4096) (h3 : now < d) (h4 : d ≤ now + 2147483648) : QI now (insT [i, d] T) (putR 1 [i, d] M) := by
  have ht := h.tim
  have hp := perm_ins [i, d] T
  have hf : M.filter (fun r => !(r.take 1 == ([i, d] : List Int).take 1)) = M := by
    rw [List.filter_eq_self]
    intro r hr
    have hrT := h.perm.symm.subset hr
    obtain ⟨j, e, rfl, _⟩ := row_eq (h.row r hrT)
    have := hi _ hrT
    simp only [idR, List.getD_cons_zero] at this
    simp [this]
  refine ⟨srt_ins h.srt fun x hx => lt_tot (h.row x hx) (hi x hx), fun r hr => ?_, putR_sorted h.mrt, ?_, fun r hr => ?_, h.tim⟩
  · rcases List.mem_cons.1 (hp.subset hr) with rfl | hr
    · exact ⟨i64w (by omega) (by omega), i64w (by omega) (by omega), trivial⟩
    · exact h.row r hr
  · have := putR_perm (n := 1) (row := [i, d]) h.mrt
    rw [hf] at this
    exact hp.trans ((h.perm.cons _).trans this.symm)
  · rcases List.mem_cons.1 (hp.subset hr) with rfl | hr
    · exact ⟨h1, h2, h3, h4⟩
    · exact h.rng r hr
/-! ### a later time -/
def delAll (l : RL) (M : RL) : RL := l.foldl (fun m r => delR [idR r] m) M
theorem delAll_spec : ∀ {l M : RL}, SortedR 1 M → rowsOK tmK M → SortedR 1 (delAll l M) ∧ delAll l M = M.filter fun r => l.all fun x => idR r != idR x
  | [], M, h, _ => ⟨h, (List.filter_eq_self.2 fun _ _ => rfl).symm⟩
  | x :: l, M, h, hr => by
    have hd : delR [idR x] M = M.filter fun r => idR r != idR x := by
      rw [delR_filter (n := 1) rfl h]
      apply List.filter_congr
      intro r hrm
      obtain ⟨j, e, rfl, _⟩ := row_eq (hr r hrm)
      generalize idR x = y
      simp only [List.take, idR, List.getD_cons_zero, bne]
      congr 1
      by_cases hj : j = y <;> simp [hj]
    have hs := delR_sorted (k := [idR x]) (n := 1) rfl h
    obtain ⟨i1, i2⟩ := delAll_spec (l := l) hs (fun r hrm => hr r (by rw [hd] at hrm; exact (List.mem_filter.1 hrm).1))
    refine ⟨i1, ?_⟩
    show delAll l (delR [idR x] M) = _
    rw [i2, hd, List.filter_filter]
    apply List.filter_congr
    intro r _
    simp only [List.all_cons, Bool.and_comm]
def dueT (now : Int) (T : RL) : RL := T.filter fun r => decide (dlR r ≤ now)
def leftT (now : Int) (T : RL) : RL := T.filter fun r => decide (now < dlR r)
theorem QI.split {now : Int} {T M : RL} (h : QI now T M) (t : Int) : T.take (cnt T [0, t + 1]) = dueT t T ∧ T.drop (cnt T [0, t + 1]) = leftT t T := by
  obtain ⟨t1, t2⟩ := take_cnt (t := [0, t + 1]) h.srt
  rw [t1, t2]
  have key : ∀ r ∈ T, ltT r [0, t + 1] = decide (dlR r ≤ t) := fun r hr => by
    have hr' := h.rng r hr
    rw [Bool.eq_iff_iff, ltT_iff, decide_eq_true_eq]
    simp only [dlR, idR, List.getD_cons_succ, List.getD_cons_zero] at hr' ⊢
    omega
  refine ⟨List.filter_congr fun r hr => key r hr, List.filter_congr fun r hr => ?_⟩
  rw [key r hr]
  by_cases hc : dlR r ≤ t
  · simp [hc]
  · simp [hc]; omega
theorem QI.to {now : Int} {T M : RL} (h : QI now T M) {t : Int} (h1 : now ≤ t) (h2 : t ≤ 1099511627776) : QI t (leftT t T) (delAll (dueT t T) M) := by
  have hrM : rowsOK tmK M := fun r hr => h.row r (h.perm.symm.subset hr)
  obtain ⟨d1, d2⟩ := delAll_spec (l := dueT t T) h.mrt hrM
  have ht := h.tim
  refine ⟨List.Pairwise.filter _ h.srt, fun r hr => h.row r (List.mem_filter.1 hr).1, d1, ?_, fun r hr => ?_, by omega⟩
  · rw [d2]
    have : leftT t T = T.filter fun r => (dueT t T).all fun x => idR r != idR x := by
      apply List.filter_congr
      intro r hr
      rw [Bool.eq_iff_iff, decide_eq_true_eq, List.all_eq_true]
      constructor
      · intro hlt x hx
        have hx' := List.mem_filter.1 hx
        have hx2 := hx'.2
        simp only [decide_eq_true_eq] at hx2
        simp only [bne_iff_ne, ne_eq]
        intro e
        have := h.uid hr hx'.1 e
        subst this
        omega
      · intro hall
        by_cases hle : t < dlR r
        · exact hle
        · have := hall r (List.mem_filter.2 ⟨hr, by simp; omega⟩)
          simp at this
    rw [this]
    exact h.perm.filter _
  · have hr' := List.mem_filter.1 hr
    have := h.rng r hr'.1
    have h3 := hr'.2
    simp only [decide_eq_true_eq] at h3
    omega
end
end Go.Proofs.Ytmolkkphnehgcaa.Ew
