/- Maps, told by rows in the order of their keys: what is looked up, written and taken out. No program is in sight here. -/
import Derived.Test.YtmolkkphnehgcaaWN
import Derived.MapKept
set_option linter.unusedVariables false
set_option linter.unusedSimpArgs false
namespace Go.Proofs.Ytmolkkphnehgcaa.Ew
open Go Go.RowKit

/-! ### the order of keys -/
theorem ltR_irr : ∀ a : List Int, ltR a a = false
  | [] => rfl
  | x :: l => by simp [ltR, ltR_irr l]
theorem ltR_tot : ∀ a b : List Int, ltR a b = false → a ≠ b → ltR b a = true
  | [], [], _, h => absurd rfl h
  | [], _ :: _, h, _ => by simp [ltR] at h
  | _ :: _, [], _, _ => rfl
  | x :: l, y :: r, h, hn => by
    simp only [ltR] at h ⊢
    by_cases h1 : x < y
    · simp [h1] at h
    · by_cases h2 : x = y
      · subst h2
        simp at h
        have := ltR_tot l r h fun e => hn (by rw [e])
        simp [this]
      · have h3 : y < x := by omega
        simp [h3]
theorem ltR_trans : ∀ {a b c : List Int}, ltR a b = true → ltR b c = true → ltR a c = true
  | [], [], c, h, _ => by simp [ltR] at h
  | [], _ :: _, [], _, h => by simp [ltR] at h
  | [], _ :: _, _ :: _, _, _ => rfl
  | _ :: _, [], c, h, _ => by simp [ltR] at h
  | _ :: _, _ :: _, [], _, h => by simp [ltR] at h
  | x :: l, y :: r, z :: s, h, h' => by
    simp only [ltR] at h h' ⊢
    by_cases h1 : x < y
    · by_cases h2 : y < z
      · simp [show x < z by omega]
      · by_cases h3 : y = z
        · subst h3; simp [h1]
        · simp [h2, h3] at h'
    · by_cases h2 : x = y
      · subst h2
        simp at h
        by_cases h3 : x < z
        · simp [h3]
        · by_cases h4 : x = z
          · subst h4
            simp at h' ⊢
            exact ltR_trans h h'
          · simp [h3, h4] at h'
      · simp [h1, h2] at h
theorem ltR_ne {a b : List Int} (h : ltR a b = true) : a ≠ b := fun e => by rw [e, ltR_irr] at h; cases h

theorem SortedR.cons {n : Nat} {r : List Int} {l : RL} : SortedR n (r :: l) ↔ (∀ a ∈ l, ltR (r.take n) (a.take n) = true) ∧ SortedR n l := List.pairwise_cons
theorem SortedR.ne {n : Nat} {l : RL} (h : SortedR n l) : l.Pairwise fun a b => a.take n ≠ b.take n := List.Pairwise.imp (fun h => ltR_ne h) h

theorem filter_all {p : List Int → Bool} : ∀ {l : RL}, (∀ a ∈ l, p a = true) → l.filter p = l := fun h => List.filter_eq_self.2 h

theorem putR_perm {n : Nat} {row : List Int} : ∀ {l : RL}, SortedR n l → (putR n row l).Perm (row :: l.filter fun r => !(r.take n == row.take n))
  | [], _ => by simp [putR]
  | r :: l, h => by
    obtain ⟨h1, h2⟩ := SortedR.cons.1 h
    simp only [putR]
    by_cases he : r.take n = row.take n
    · rw [if_pos (by simpa using he)]
      have : (r :: l).filter (fun r => !(r.take n == row.take n)) = l := by
        rw [List.filter_cons]
        simp only [he, beq_self_eq_true, Bool.not_true]
        refine filter_all fun a ha => ?_
        have := ltR_ne (h1 a ha)
        rw [he] at this
        simpa using fun e => this e.symm
      rw [this]
    · rw [if_neg (by simpa using he)]
      split
      · rename_i hlt
        have : (r :: l).filter (fun r => !(r.take n == row.take n)) = r :: l := by
          refine filter_all fun a ha => ?_
          rcases List.mem_cons.1 ha with rfl | ha
          · simpa using he
          · have := ltR_ne (ltR_trans hlt (h1 a ha))
            simpa using fun e => this e.symm
        rw [this]
      · have hf : (r :: l).filter (fun r => !(r.take n == row.take n)) = r :: l.filter (fun r => !(r.take n == row.take n)) := by
          rw [List.filter_cons, if_pos (by simpa using he)]
        rw [hf]
        exact ((putR_perm h2).cons r).trans (List.Perm.swap ..)
theorem putR_mem {n : Nat} {row : List Int} : ∀ {l : RL} {a : List Int}, a ∈ putR n row l → a = row ∨ a ∈ l
  | [], a, h => by simp [putR] at h; exact Or.inl h
  | r :: l, a, h => by
    simp only [putR] at h
    split at h
    · rcases List.mem_cons.1 h with h | h
      · exact Or.inl h
      · exact Or.inr (List.mem_cons_of_mem _ h)
    · split at h
      · rcases List.mem_cons.1 h with h | h
        · exact Or.inl h
        · exact Or.inr h
      · rcases List.mem_cons.1 h with h | h
        · exact Or.inr (h ▸ List.mem_cons_self ..)
        · rcases putR_mem h with h | h
          · exact Or.inl h
          · exact Or.inr (List.mem_cons_of_mem _ h)
theorem putR_sorted {n : Nat} {row : List Int} : ∀ {l : RL}, SortedR n l → SortedR n (putR n row l)
  | [], _ => by simp [putR, SortedR]
  | r :: l, h => by
    obtain ⟨h1, h2⟩ := SortedR.cons.1 h
    simp only [putR]
    by_cases he : r.take n = row.take n
    · rw [if_pos (by simpa using he)]
      exact SortedR.cons.2 ⟨fun a ha => by rw [← he]; exact h1 a ha, h2⟩
    · rw [if_neg (by simpa using he)]
      split
      · rename_i hlt
        refine SortedR.cons.2 ⟨fun a ha => ?_, h⟩
        rcases List.mem_cons.1 ha with rfl | ha
        · exact hlt
        · exact ltR_trans hlt (h1 a ha)
      · rename_i hlt
        refine SortedR.cons.2 ⟨fun a ha => ?_, putR_sorted h2⟩
        rcases putR_mem ha with rfl | ha
        · exact ltR_tot _ _ (by simpa using hlt) fun e => he e.symm
        · exact h1 a ha
theorem delR_filter {k : List Int} {n : Nat} (hn : k.length = n) : ∀ {l : RL}, SortedR n l → delR k l = l.filter fun r => !(r.take n == k)
  | [], _ => rfl
  | r :: l, h => by
    obtain ⟨h1, h2⟩ := SortedR.cons.1 h
    simp only [delR, hn]
    by_cases he : r.take n = k
    · rw [if_pos (by simpa using he), List.filter_cons]
      simp only [he, beq_self_eq_true, Bool.not_true]
      refine (filter_all fun a ha => ?_).symm
      have := ltR_ne (h1 a ha)
      rw [he] at this
      simpa using fun e => this e.symm
    · rw [if_neg (by simpa using he), List.filter_cons, if_pos (by simpa using he), delR_filter hn h2]
theorem delR_sorted {k : List Int} {n : Nat} (hn : k.length = n) {l : RL} (h : SortedR n l) : SortedR n (delR k l) := by
  rw [delR_filter hn h]; exact List.Pairwise.filter _ h

/-! ### any order of the entries -/
theorem find_perm {p : List Int → Bool} {l l' : RL} (hp : l'.Perm l) (hu : ∀ a ∈ l, ∀ b ∈ l, p a = true → p b = true → a = b) : l'.find? p = l.find? p := by
  cases h : l.find? p with
  | none =>
    rw [List.find?_eq_none] at h ⊢
    exact fun x hx => h x (hp.mem_iff.1 hx)
  | some a =>
    have h1 := List.mem_of_find?_eq_some h
    have h2 := List.find?_some h
    cases h' : l'.find? p with
    | none =>
      rw [List.find?_eq_none] at h'
      exact absurd h2 (h' a (hp.mem_iff.2 h1))
    | some b =>
      have h3 := List.mem_of_find?_eq_some h'
      have h4 := List.find?_some h'
      rw [hu b (hp.mem_iff.1 h3) a h1 h4 h2]
theorem key_uniq {n : Nat} {l : RL} (h : l.Pairwise fun a b => a.take n ≠ b.take n) {k : List Int} : ∀ a ∈ l, ∀ b ∈ l, (a.take n == k) = true → (b.take n == k) = true → a = b := by
  induction l with
  | nil => intro a ha; cases ha
  | cons r l ih =>
    obtain ⟨h1, h2⟩ := List.pairwise_cons.1 h
    intro a ha b hb hak hbk
    have hak : a.take n = k := by simpa using hak
    have hbk : b.take n = k := by simpa using hbk
    rcases List.mem_cons.1 ha with ea | ha' <;> rcases List.mem_cons.1 hb with eb | hb'
    · rw [ea, eb]
    · exact absurd (by rw [← ea]; exact hak.trans hbk.symm) (h1 b hb')
    · exact absurd (by rw [← eb]; exact hbk.trans hak.symm) (h1 a ha')
    · exact ih h2 a ha' b hb' (by simpa using hak) (by simpa using hbk)
theorem ne_perm {n : Nat} {l l' : RL} (hp : l'.Perm l) (h : l.Pairwise fun a b => a.take n ≠ b.take n) : l'.Pairwise fun a b => a.take n ≠ b.take n :=
  (hp.pairwise_iff (fun {a b} h e => h e.symm)).2 h
theorem set_perm {n : Nat} {k row : List Int} : ∀ {l : RL} {i : Nat} {r0 : List Int}, (l.Pairwise fun a b => a.take n ≠ b.take n) → l[i]? = some r0 → r0.take n = k → (l.set i row).Perm (row :: l.filter fun r => !(r.take n == k))
  | [], i, r0, _, h, _ => by simp at h
  | r :: l, 0, r0, hp, h, hk => by
    obtain ⟨h1, h2⟩ := List.pairwise_cons.1 hp
    simp at h
    subst h
    have : (r :: l).filter (fun r => !(r.take n == k)) = l := by
      rw [List.filter_cons]
      simp only [hk, beq_self_eq_true, Bool.not_true]
      refine filter_all fun a ha => ?_
      have := h1 a ha
      rw [hk] at this
      simpa using fun e => this e.symm
    rw [this]; simp
  | r :: l, i + 1, r0, hp, h, hk => by
    obtain ⟨h1, h2⟩ := List.pairwise_cons.1 hp
    have h' : l[i]? = some r0 := by simpa using h
    have hr : r.take n ≠ k := by rw [← hk]; exact h1 r0 (List.mem_of_getElem? h')
    have hf : (r :: l).filter (fun r => !(r.take n == k)) = r :: l.filter (fun r => !(r.take n == k)) := by rw [List.filter_cons, if_pos (by simpa using hr)]
    rw [hf]
    exact ((set_perm h2 h' hk).cons r).trans (List.Perm.swap ..)
theorem erase_perm {n : Nat} {k : List Int} : ∀ {l : RL} {i : Nat} {r0 : List Int}, (l.Pairwise fun a b => a.take n ≠ b.take n) → l[i]? = some r0 → r0.take n = k → l.eraseIdx i = l.filter fun r => !(r.take n == k)
  | [], i, r0, _, h, _ => by simp at h
  | r :: l, 0, r0, hp, h, hk => by
    obtain ⟨h1, h2⟩ := List.pairwise_cons.1 hp
    simp at h
    subst h
    rw [List.filter_cons]
    simp only [hk, beq_self_eq_true, Bool.not_true]
    refine (filter_all fun a ha => ?_).symm
    have := h1 a ha
    rw [hk] at this
    simpa using fun e => this e.symm
  | r :: l, i + 1, r0, hp, h, hk => by
    obtain ⟨h1, h2⟩ := List.pairwise_cons.1 hp
    have h' : l[i]? = some r0 := by simpa using h
    have hr : r.take n ≠ k := by rw [← hk]; exact h1 r0 (List.mem_of_getElem? h')
    rw [List.filter_cons, if_pos (by simpa using hr), List.eraseIdx_cons_succ, erase_perm h2 h' hk]

/-! ### entries and rows -/
section
variable {ks vs : List K} {kag vag : Bool}
theorem MapZ.len : ∀ {es : List MapEntry} {l : RL}, MapZ ks vs kag vag es l → es.length = l.length
  | [], [], _ => rfl
  | [], _ :: _, h => h.elim
  | _ :: _, [], h => h.elim
  | _ :: es, _ :: l, h => by simp [MapZ.len h.2]
theorem MapZ.get : ∀ {es : List MapEntry} {l : RL}, MapZ ks vs kag vag es l → ∀ (i : Nat) (e : MapEntry), es[i]? = some e → ∃ r, l[i]? = some r ∧ EntV ks vs kag vag e r
  | [], [], _, i, e, h => by simp at h
  | [], _ :: _, h, _, _, _ => h.elim
  | _ :: _, [], h, _, _, _ => h.elim
  | x :: es, r :: l, h, 0, e, he => by simp at he; subst he; exact ⟨r, rfl, h.1⟩
  | x :: es, r :: l, h, i + 1, e, he => by simpa using MapZ.get h.2 i e (by simpa using he)
theorem MapZ.mem {es : List MapEntry} {l : RL} (h : MapZ ks vs kag vag es l) {r : List Int} (hr : r ∈ l) : ∃ e ∈ es, EntV ks vs kag vag e r := by
  induction es generalizing l with
  | nil => cases l with
    | nil => cases hr
    | cons _ _ => exact h.elim
  | cons x es ih => cases l with
    | nil => exact h.elim
    | cons y l =>
      rcases List.mem_cons.1 hr with rfl | hr
      · exact ⟨x, List.mem_cons_self .., h.1⟩
      · obtain ⟨e, h1, h2⟩ := ih h.2 hr
        exact ⟨e, List.mem_cons_of_mem _ h1, h2⟩
theorem MapZ.set : ∀ {es : List MapEntry} {l : RL}, MapZ ks vs kag vag es l → ∀ (i : Nat) (e : MapEntry) (r : List Int), EntV ks vs kag vag e r → MapZ ks vs kag vag (es.set i e) (l.set i r)
  | [], [], _, i, e, r, h => by simp [MapZ]
  | [], _ :: _, h, _, _, _, _ => h.elim
  | _ :: _, [], h, _, _, _, _ => h.elim
  | x :: es, y :: l, h, 0, e, r, he => ⟨he, h.2⟩
  | x :: es, y :: l, h, i + 1, e, r, he => ⟨h.1, MapZ.set h.2 i e r he⟩
theorem MapZ.snoc : ∀ {es : List MapEntry} {l : RL}, MapZ ks vs kag vag es l → ∀ (e : MapEntry) (r : List Int), EntV ks vs kag vag e r → MapZ ks vs kag vag (es ++ [e]) (l ++ [r])
  | [], [], _, e, r, h => ⟨h, trivial⟩
  | [], _ :: _, h, _, _, _ => h.elim
  | _ :: _, [], h, _, _, _ => h.elim
  | x :: es, y :: l, h, e, r, he => ⟨h.1, MapZ.snoc h.2 e r he⟩
theorem MapZ.erase : ∀ {es : List MapEntry} {l : RL}, MapZ ks vs kag vag es l → ∀ i : Nat, MapZ ks vs kag vag (es.eraseIdx i) (l.eraseIdx i)
  | [], [], _, i => by simp [MapZ]
  | [], _ :: _, h, _ => h.elim
  | _ :: _, [], h, _ => h.elim
  | x :: es, y :: l, h, 0 => h.2
  | x :: es, y :: l, h, i + 1 => ⟨h.1, MapZ.erase h.2 i⟩
end

/-! ### keys of one integer -/
theorem keyV_one (k : IntKind) (z : Int) (r : List Int) : keyV [.i k] false (z :: r) = .int k z := rfl
theorem entV_key {k : IntKind} {vs : List K} {vag : Bool} {e : MapEntry} {r : List Int} (h : EntV [.i k] vs false vag e r) : ∃ z us, r = z :: us ∧ k.wrap z = z ∧ fits vs us ∧ e.key = .int k z ∧ e.val = keyV vs vag us := by
  obtain ⟨h1, h2, h3⟩ := h
  cases r with
  | nil => exact h1.elim
  | cons z us => exact ⟨z, us, rfl, h1.1, h1.2, h2, h3⟩
theorem entV_mk {k : IntKind} {vs : List K} {vag : Bool} {z : Int} {us : List Int} {b : Nat} (h1 : k.wrap z = z) (h2 : fits vs us) : EntV [.i k] vs false vag ⟨.int k z, keyV vs vag us, b⟩ (z :: us) := ⟨⟨h1, h2⟩, rfl, rfl⟩

/-- What is found: where, and in which row. -/
theorem find_key {k : IntKind} {vs : List K} {vag : Bool} {es : List MapEntry} {l l' : RL} (hs : SortedR 1 l) (hp : l'.Perm l) (hz : MapZ [.i k] vs false vag es l') (z : Int) :
    (Instr.findNow (.int k) (.int k z) es 0 = some none ∧ l.find? (fun r => r.take 1 == [z]) = none ∧ ∀ r ∈ l', r.take 1 ≠ [z]) ∨
    ∃ i e us, Instr.findNow (.int k) (.int k z) es 0 = some (some (i, keyV vs vag us)) ∧ es[i]? = some e ∧ e.key = .int k z ∧ l'[i]? = some (z :: us) ∧ fits vs us ∧ l.find? (fun r => r.take 1 == [z]) = some (z :: us) := by
  have hne := ne_perm hp hs.ne
  have hkeys : ∀ x ∈ es, MapKept.IsKey (.int k) x.key := fun x hx => by
    obtain ⟨i, hi, rfl⟩ := List.getElem_of_mem hx
    obtain ⟨r, h1, h2⟩ := hz.get i _ (List.getElem?_eq_getElem hi)
    obtain ⟨z', us, _, _, _, e, _⟩ := entV_key h2
    rw [e]; rfl
  rcases MapKept.findNow_spec (d := .int k) (k := .int k z) rfl es 0 hkeys with ⟨h1, h2⟩ | ⟨j, e, h1, h2, h3⟩
  · left
    have hn : ∀ r ∈ l', r.take 1 ≠ [z] := fun r hr e => by
      obtain ⟨x, x1, x2⟩ := hz.mem hr
      obtain ⟨z', us, rfl, _, _, e', _⟩ := entV_key x2
      have : z' = z := by simpa using e
      subst this
      exact h2 x x1 e'
    refine ⟨h1, ?_, hn⟩
    rw [List.find?_eq_none]
    intro r hr
    simpa using hn r (hp.mem_iff.2 hr)
  · right
    obtain ⟨r, r1, r2⟩ := hz.get j e h2
    obtain ⟨z', us, rfl, w1, w2, w3, w4⟩ := entV_key r2
    rw [w3] at h3
    simp only [Value.int.injEq, true_and] at h3
    subst h3
    refine ⟨j, e, us, by rw [h1, w4, Nat.zero_add], h2, w3, r1, w2, ?_⟩
    rw [← find_perm hp (key_uniq hs.ne)]
    cases hf : l'.find? (fun r => r.take 1 == [z']) with
    | none =>
      rw [List.find?_eq_none] at hf
      exact absurd (hf _ (List.mem_of_getElem? r1)) (by simp)
    | some a =>
      have hfs : (a.take 1 == [z']) = true := List.find?_some (p := fun r : List Int => r.take 1 == [z']) hf
      have := key_uniq hne a (List.mem_of_find?_eq_some hf) _ (List.mem_of_getElem? r1) hfs (by simp)
      rw [this]
end Go.Proofs.Ytmolkkphnehgcaa.Ew
