/- Layer 17: the reference: timers in no order; what its functions compute. -/
import Derived.Test.YtmolkkphnehgcaaQl
set_option linter.unusedVariables false
set_option linter.unusedSimpArgs false
namespace Go.Proofs.Ytmolkkphnehgcaa.Ew
open Go Go.RowKit
noncomputable section
--P Try.prog G0

def ls78 : Sh := .lst 78 tmR false
def lo78 : Sh := .lst 78 tmR true
def rq : Sh := .agg [i64, ls78]
/-- Timers, the least one first. -/
def sortT (L : RL) : RL := L.foldr (fun r T => insT r T) []
def disT (L : RL) : Prop := L.Pairwise fun a b => idR a ≠ idR b
def minF (L : RL) (m : List Int) : List Int := L.foldl (fun m r => if ltT r m = true then r else m) m
def hasL (L : RL) (i : Int) : Bool := L.any fun r => idR r == i
def dlL (L : RL) (i : Int) : Int := match L.find? (fun r => idR r == i) with | some r => dlR r | none => 0

theorem sort_perm : ∀ L : RL, (sortT L).Perm L
  | [] => List.Perm.refl _
  | r :: L => (perm_ins r (sortT L)).trans ((sort_perm L).cons r)

theorem sort_srt : ∀ {L : RL}, disT L → rowsOK tmK L → srtT (sortT L)
  | [], _, _ => List.Pairwise.nil
  | r :: L, h, hr => by
    obtain ⟨p1, p2⟩ := List.pairwise_cons.1 h
    refine srt_ins (sort_srt p2 fun x hx => hr x (List.mem_cons_of_mem _ hx)) fun x hx => ?_
    have hx' := (sort_perm L).subset hx
    obtain ⟨i, d, rfl, _⟩ := row_eq (hr r (List.mem_cons_self ..))
    exact lt_tot (hr x (List.mem_cons_of_mem _ hx')) fun e => p1 x hx' e.symm

theorem dis_perm {A B : RL} (h : A.Perm B) (hA : disT A) : disT B := h.pairwise hA fun hab => hab.symm

theorem dis_uid : ∀ {L : RL}, disT L → ∀ {a b : List Int}, a ∈ L → b ∈ L → idR a = idR b → a = b
  | [], _, _, _, h, _, _ => by cases h
  | r :: L, h, a, b, ha, hb, e => by
    obtain ⟨p1, p2⟩ := List.pairwise_cons.1 h
    rcases List.mem_cons.1 ha with e1 | h1
    · rcases List.mem_cons.1 hb with e2 | h2
      · rw [e1, e2]
      · exact absurd (e1 ▸ e) (p1 b h2)
    · rcases List.mem_cons.1 hb with e2 | h2
      · exact absurd (e2 ▸ e).symm (p1 a h1)
      · exact dis_uid p2 h1 h2 e

theorem dis_nodup {L : RL} (h : disT L) : L.Nodup := h.imp fun hab e => hab (congrArg idR e)

theorem dis_del {L : RL} (h : disT L) (i : Int) : disT (delT i L) := List.Pairwise.filter _ h

theorem mem_del {i : Int} {x : List Int} {T : RL} : x ∈ delT i T ↔ x ∈ T ∧ idR x ≠ i := by
  unfold delT; rw [List.mem_filter]; simp

/-- Sorted lists of the same timers are what sorting gives. -/
theorem sort_eq {L T : RL} (h : L.Perm T) (hT : srtT T) (hd : disT L) (hr : rowsOK tmK L) : sortT L = T := srt_eq (sort_srt hd hr) hT ((sort_perm L).trans h)

theorem min_mem : ∀ (L : RL) (m : List Int), minF L m ∈ m :: L
  | [], m => List.mem_cons_self ..
  | r :: L, m => by
    have := min_mem L (if ltT r m = true then r else m)
    show minF L (if ltT r m = true then r else m) ∈ m :: r :: L
    rcases List.mem_cons.1 this with e | h
    · rw [e]; split
      · exact List.mem_cons_of_mem _ (List.mem_cons_self ..)
      · exact List.mem_cons_self ..
    · exact List.mem_cons_of_mem _ (List.mem_cons_of_mem _ h)

theorem min_le : ∀ {L : RL} {m : List Int}, ltT m (minF L m) = false ∧ ∀ x ∈ L, ltT x (minF L m) = false
  | [], m => ⟨ltT_irr m, fun x hx => by cases hx⟩
  | r :: L, m => by
    obtain ⟨i1, i2⟩ := min_le (L := L) (m := if ltT r m = true then r else m)
    show ltT m (minF L (if ltT r m = true then r else m)) = false ∧ ∀ x ∈ r :: L, ltT x (minF L (if ltT r m = true then r else m)) = false
    by_cases h : ltT r m = true
    · rw [if_pos h] at i1 i2 ⊢
      refine ⟨?_, fun x hx => ?_⟩
      · rw [← Bool.not_eq_true] at i1 ⊢
        exact fun e => i1 (ltT_trans h e)
      · rcases List.mem_cons.1 hx with rfl | hx
        · exact i1
        · exact i2 x hx
    · rw [if_neg h] at i1 i2 ⊢
      refine ⟨i1, fun x hx => ?_⟩
      rcases List.mem_cons.1 hx with rfl | hx
      · rw [← Bool.not_eq_true, ltT_iff] at i1 ⊢
        rw [ltT_iff] at h
        omega
      · exact i2 x hx

theorem sort_step {L : RL} (hd : disT L) (hr : rowsOK tmK L) {r : List Int} (hm : r ∈ L) : sortT L = minF L r :: sortT (delT (idR (minF L r)) L) ∧ minF L r ∈ L := by
  obtain ⟨m, em⟩ : ∃ m, m = minF L r := ⟨_, rfl⟩
  have hmL : m ∈ L := by
    rw [em]
    rcases List.mem_cons.1 (min_mem L r) with e | h
    · rw [e]; exact hm
    · exact h
  have hle : ∀ x ∈ L, ltT x m = false := by rw [em]; exact min_le.2
  rw [← em]
  refine ⟨sort_eq ?_ ?_ hd hr, hmL⟩
  · have hnd : (m :: delT (idR m) L).Nodup := List.nodup_cons.2 ⟨fun h => (mem_del.1 h).2 rfl, dis_nodup (dis_del hd _)⟩
    refine List.Perm.trans ((List.perm_ext_iff_of_nodup (dis_nodup hd) hnd).2 fun x => ?_) ((sort_perm (delT (idR m) L)).symm.cons m)
    rw [List.mem_cons, mem_del]
    constructor
    · intro hx
      by_cases e : idR x = idR m
      · exact Or.inl (dis_uid hd hx hmL e)
      · exact Or.inr ⟨hx, e⟩
    · rintro (rfl | ⟨h, _⟩)
      · exact hmL
      · exact h
  · refine List.pairwise_cons.2 ⟨fun x hx => ?_, sort_srt (dis_del hd _) fun x hx => hr x (mem_del.1 hx).1⟩
    obtain ⟨hx1, hx2⟩ := mem_del.1 ((sort_perm _).subset hx)
    obtain ⟨i, d, e, _⟩ := row_eq (hr m hmL)
    have e2 : idR m = i := by rw [e]; rfl
    rcases lt_tot (i := i) (d := d) (hr x hx1) (by rw [← e2]; exact hx2) with h | h
    · rw [← e, hle x hx1] at h; cases h
    · rw [e]; exact h

/-! ### a queue of the reference that has the same timers -/
structure RQ (n : Int) (T M L : RL) : Prop where
  q : QI n T M
  p : L.Perm T

theorem RQ.dis {n : Int} {T M L : RL} (h : RQ n T M L) : disT L := by
  refine dis_perm h.p.symm ?_
  refine List.Pairwise.imp_of_mem (fun {a b} ha hb hab e => ?_) h.q.srt
  have := h.q.uid ha hb e
  subst this
  rw [ltT_irr] at hab; cases hab

theorem RQ.row {n : Int} {T M L : RL} (h : RQ n T M L) : rowsOK tmK L := fun r hr => h.q.row r (h.p.subset hr)

theorem RQ.sort {n : Int} {T M L : RL} (h : RQ n T M L) : sortT L = T := sort_eq h.p h.q.srt h.dis h.row

theorem RQ.has {n : Int} {T M L : RL} (h : RQ n T M L) (i : Int) : hasL L i = hasM M i := by
  rw [Bool.eq_iff_iff]
  refine Iff.trans ?_ (h.q.has i).symm
  unfold hasL
  rw [List.any_eq_true]
  constructor
  · rintro ⟨r, hr, he⟩
    obtain ⟨j, d, rfl, _⟩ := row_eq (h.row r hr)
    have : j = i := by simpa [idR] using he
    exact ⟨d, h.p.subset (by rw [← this]; exact hr)⟩
  · rintro ⟨d, hd⟩
    exact ⟨_, h.p.symm.subset hd, by simp [idR]⟩

theorem RQ.dl {n : Int} {T M L : RL} (h : RQ n T M L) {i : Int} (hh : hasM M i = true) : dlM M i = dlL L i := by
  obtain ⟨d, hd⟩ := (h.q.has i).1 hh
  have h1 : dlM M i = d := by
    unfold dlM
    rw [h.q.val hd]; rfl
  rw [h1]
  unfold dlL
  cases hf : L.find? (fun r => idR r == i) with
  | none =>
    rw [List.find?_eq_none] at hf
    exact absurd (by simp [idR]) (hf _ (h.p.symm.subset hd))
  | some r =>
    have g1 := h.p.subset (List.mem_of_find?_eq_some hf)
    have g2 := List.find?_some hf
    have : idR r = i := by simpa using g2
    have e := h.q.uid g1 hd this
    rw [e]; rfl

theorem RQ.dl0 {n : Int} {T M L : RL} (h : RQ n T M L) {i : Int} (hh : hasM M i = false) : dlL L i = 0 := by
  rw [← h.has i] at hh
  unfold dlL
  cases hf : L.find? (fun r => idR r == i) with
  | none => rfl
  | some r =>
    exfalso
    have g1 := List.mem_of_find?_eq_some hf
    have g2 := List.find?_some hf
    have : hasL L i = true := List.any_eq_true.2 ⟨r, g1, g2⟩
    rw [hh] at this; cases this

theorem RQ.arm {n : Int} {T M L : RL} (h : RQ n T M L) {i d : Int} (ha : armB n i d = true) : RQ n (insT [i, d] (delT i T)) (putR 1 [i, d] (delR [i] M)) (delT i L ++ [[i, d]]) := by
  have hb' := ha
  simp only [armB, rightB, Bool.and_eq_true, decide_eq_true_eq, Bool.not_eq_true', decide_eq_false_iff_not] at hb'
  refine ⟨(h.q.del i).ins (fun x hx => (mem_del.1 hx).2) (by omega) (by omega) (by omega) (by omega), ?_⟩
  exact List.perm_append_comm.trans (((h.p.filter _).cons _).trans (perm_ins _ _).symm)

theorem RQ.can {n : Int} {T M L : RL} (h : RQ n T M L) (i : Int) : RQ n (delT i T) (delR [i] M) (delT i L) := ⟨h.q.del i, h.p.filter _⟩

theorem RQ.to {n : Int} {T M L : RL} (h : RQ n T M L) {t : Int} (h1 : n ≤ t) (h2 : t ≤ 1099511627776) : RQ t (leftT t T) (delAll (dueT t T) M) (leftT t L) ∧ sortT (dueT t L) = dueT t T :=
  ⟨⟨h.q.to h1 h2, h.p.filter _⟩, sort_eq (h.p.filter _) (List.Pairwise.filter _ h.q.srt) (List.Pairwise.filter _ h.dis) fun r hr => h.row r (List.mem_filter.1 hr).1⟩

end
end Go.Proofs.Ytmolkkphnehgcaa.Ew
