/- That a call may be taken by its summary. -/
import Derived.Test.YtmolkkphnehgcaaWS
set_option linter.unusedVariables false
set_option linter.unusedSimpArgs false
namespace Go.Proofs.Ytmolkkphnehgcaa.Ew
open Go Go.RowKit

section
variable {P : Program} {F : Fam} {ρ ρ' : Nat → Int} {G : Glob} {w0 w w' : World} {M0 Im0 Im Im' T : Nat → Prop} {ad ad' hs hs' : Nat → Hd} {m m' : Mem}

theorem varE_kind (ks : List K) (i : Nat) (k : K) (h : ks[i]? = some k) : (varE ks i).kind = k := by simp [varE, h, E.kind]
theorem varE_den {ks : List K} {xs : List Int} (hf : fits ks xs) (i : Nat) : (varE ks i).den F (env xs) = if i < ks.length then xs.getD i 0 else 0 := by
  unfold varE
  by_cases hi : i < ks.length
  · simp only [List.getElem?_eq_getElem hi, hi, if_true, E.den, env]
    exact fits_get hf i _ (List.getElem?_eq_getElem hi)
  · rw [List.getElem?_eq_none (by omega), if_neg hi]
    simp [b2i]
theorem outsE_fits (fn : Nat → List Int → Int) (xs : List Int) : ∀ (ks : List K) (j : Nat), fits ks (outsE fn xs j ks)
  | [], _ => trivial
  | k :: ks, j => ⟨K.norm_norm k _, outsE_fits fn xs ks (j + 1)⟩
theorem appsE_len (key : Nat) (es : List E) : ∀ (ks : List K) (j : Nat), (appsE key es j ks).length = ks.length
  | [], _ => rfl
  | k :: ks, j => by simp [appsE, appsE_len key es ks (j + 1)]
theorem appsE_kind (key : Nat) (es : List E) : ∀ (ks : List K) (j : Nat), (appsE key es j ks).map E.kind = ks
  | [], _ => rfl
  | k :: ks, j => by simp [appsE, E.kind, appsE_kind key es ks (j + 1)]
theorem varsE_len (b : Nat) : ∀ (ks : List K) (j : Nat), (varsE b j ks).length = ks.length
  | [], _ => rfl
  | k :: ks, j => by simp [varsE, varsE_len b ks (j + 1)]
theorem varsE_kind (b : Nat) : ∀ (ks : List K) (j : Nat), (varsE b j ks).map E.kind = ks
  | [], _ => rfl
  | k :: ks, j => by simp [varsE, E.kind, varsE_kind b ks (j + 1)]
theorem outV_len (key nm : Nat) (es : List E) (ks : List K) : (outV key nm es ks).length = ks.length := by
  unfold outV; cases decide (namB ≤ key)
  · exact appsE_len _ _ _ _
  · exact varsE_len _ _ _
theorem outV_kind (key nm : Nat) (es : List E) (ks : List K) : (outV key nm es ks).map E.kind = ks := by
  unfold outV; cases decide (namB ≤ key)
  · exact appsE_kind _ _ _ _
  · exact varsE_kind _ _ _
theorem eqsE_den {F : Fam} : ∀ {a b : List E}, a.length = b.length → (eqsE a b).tt F ρ = true → a.map (E.den F ρ) = b.map (E.den F ρ)
  | [], [], _, _ => rfl
  | [], _ :: _, h, _ => by simp at h
  | _ :: _, [], h, _ => by simp at h
  | x :: a, y :: b, h, ht => by
    simp only [eqsE, E.tt, E.den, i2b_b2i, Bool.and_eq_true, cmpB, beq_iff_eq] at ht
    simp only [List.map_cons, ht.1, eqsE_den (a := a) (b := b) (by simpa using h) ht.2]
theorem eqsE_kind : ∀ (a b : List E), (eqsE a b).kind = .b
  | [], [] => rfl
  | [], _ :: _ => rfl
  | _ :: _, [] => rfl
  | _ :: _, _ :: _ => rfl
theorem defG_kind (key nm : Nat) (es : List E) (ks : List K) : (defG key nm es ks).kind = .b := by
  unfold defG; cases decide (namB ≤ key)
  · rfl
  · exact eqsE_kind _ _
theorem outV_den {F : Fam} {key nm : Nat} {es : List E} {ks : List K} (h : (defG key nm es ks).tt F ρ = true) : (outV key nm es ks).map (E.den F ρ) = (appsE key es 0 ks).map (E.den F ρ) := by
  unfold outV defG at *
  cases hd : decide (namB ≤ key)
  · rfl
  · rw [hd] at h
    simp only [cond_true] at h ⊢
    exact eqsE_den (by rw [varsE_len, appsE_len]) h
theorem Tabs.F_fn {l : Tabs} {e : Ent} (he : l.get e.key = some e) (hk : e.key ≠ 0) {j : Nat} (hj : j ≠ preC) (xs : List Int) : l.F e.key j xs = e.fn j xs := by
  simp [Tabs.F, hk, he, hj]
open Classical in
theorem Tabs.F_pre {l : Tabs} {e : Ent} (he : l.get e.key = some e) (hk : e.key ≠ 0) {xs : List Int} (h : (E.app .b e.key preC []).kind = .b) : (i2b (K.b.norm (l.F e.key preC xs)) = true ↔ e.pre xs) := by
  have : l.F e.key preC xs = if e.pre xs then 1 else 0 := by simp [Tabs.F, hk, he]
  rw [this]
  by_cases hp : e.pre xs
  · simp [hp, K.norm, i2b]
  · simp [hp, K.norm, i2b]
theorem appsE_den {l : Tabs} {e : Ent} (he : l.get e.key = some e) (hk : e.key ≠ 0) (es : List E) : ∀ (ks : List K) (j : Nat), j + ks.length ≤ preC → (appsE e.key es j ks).map (E.den l.F ρ) = outsE e.fn (es.map (E.den l.F ρ)) j ks
  | [], _, _ => rfl
  | k :: ks, j, h => by
    simp only [appsE, List.map_cons, outsE, E.den, denL_eq, Tabs.F_fn he hk (show j ≠ preC by simp only [List.length_cons] at h; omega)]
    rw [appsE_den he hk es ks (j + 1) (by simp only [List.length_cons] at h; omega)]

theorem fits_of {es : List E} {ks : List K} (hk : es.map E.kind = ks) (hs : ∀ e ∈ es, e.kind ≠ .x → e.sound = true) : fits ks (es.map (E.den F ρ)) := by
  subst hk
  induction es with
  | nil => trivial
  | cons e es ih =>
    refine ⟨?_, ih fun x hx => hs x (List.mem_cons_of_mem _ hx)⟩
    by_cases hx : e.kind = .x
    · rw [hx]; rfl
    · exact E.den_norm F ρ e (hs e (List.mem_cons_self ..) hx)

theorem getD_app (a b : List Int) (i : Nat) : (a ++ b).getD i 0 = if i < a.length then a.getD i 0 else b.getD (i - a.length) 0 := by
  simp only [List.getD]
  by_cases h : i < a.length
  · rw [if_pos h, List.getElem?_append_left h]
  · rw [if_neg h, List.getElem?_append_right (by omega)]

/-- The generic parameters read the same among the parameters alone and among parameters and results. -/
theorem Tr.params (B : Nat) {ks : List K} {xs ys : List Int} (hx : fits ks xs) (hh : ∀ j, j < B → hs' j = hs j) : Tr B F0 F0 (env xs) (env (xs ++ ys)) hs hs' (varE ks) (varE ks) id id := by
  refine ⟨BI_F0, BI_F0, fun i => ?_, fun i => rfl, fun j hj => (hh j hj).symm⟩
  have hl := fits_length hx
  unfold varE
  cases hk : ks[i]? with
  | none => simp
  | some k =>
    have hi := (List.getElem?_eq_some_iff.1 hk).1
    simp only [E.den, env, getD_app, hl, hi, if_true]

theorem mem_setEs : ∀ {l : List (Nat × E × Blk)} {m : Mem} {k : Nat} {g : E} {x : Blk}, (setEs m l).at k = some (g, x) → (k, g, x) ∈ l ∨ ((∀ y ∈ l, y.1 ≠ k) ∧ m.at k = some (g, x)) ∨ ((∃ y ∈ l, y.1 = k ∧ m.length ≤ k))
  | [], m, k, g, x, h => Or.inr (Or.inl ⟨by simp, h⟩)
  | (n, g', b) :: r, m, k, g, x, h => by
    simp only [setEs] at h
    rcases mem_setEs (l := r) h with h1 | ⟨h1, h2⟩ | ⟨y, h1, h2, h3⟩
    · exact Or.inl (List.mem_cons_of_mem _ h1)
    · by_cases hk : n = k
      · subst hk
        by_cases hl : n < m.length
        · rw [Mem.at_set_same hl] at h2
          simp only [Option.some.injEq, Prod.mk.injEq] at h2
          obtain ⟨rfl, rfl⟩ := h2
          exact Or.inl (List.mem_cons_self ..)
        · exact Or.inr (Or.inr ⟨_, List.mem_cons_self .., rfl, by omega⟩)
      · rw [Mem.at_set_other hk] at h2
        refine Or.inr (Or.inl ⟨fun y hy => ?_, h2⟩)
        rcases List.mem_cons.1 hy with rfl | hy
        · exact hk
        · exact h1 y hy
    · exact Or.inr (Or.inr ⟨y, List.mem_cons_of_mem _ h1, h2, by simpa using h3⟩)
theorem setEs_len : ∀ (l : List (Nat × E × Blk)) (m : Mem), (setEs m l).length = m.length
  | [], _ => rfl
  | (n, g, b) :: r, m => by simp only [setEs, setEs_len r, List.length_set]
theorem setEs_al : ∀ {l : List (Nat × E × Blk)} {m : Mem} {k : Nat}, al m k → al (setEs m l) k
  | [], m, k, h => h
  | (n, g, b) :: r, m, k, h => by
    refine setEs_al (l := r) ?_
    by_cases hl : n < m.length
    · exact al_set_new hl k h
    · rw [List.set_eq_of_length_le (by omega)]; exact h
theorem setEs_new : ∀ {l : List (Nat × E × Blk)} {m : Mem} {y : Nat × E × Blk}, y ∈ l → y.1 < m.length → al (setEs m l) y.1
  | [], m, y, h, _ => by cases h
  | (n, g, b) :: r, m, y, h, hl => by
    rcases List.mem_cons.1 h with rfl | h
    · refine setEs_al (l := r) ?_
      have hl' : n < m.length := hl
      show al (m.set n (some (g, b))) n
      simp [al, Mem.at_set_same hl']
    · exact setEs_new (l := r) h (by simpa using hl)

theorem nodup_flat {f : Nat → List Nat} : ∀ {l : List Nat}, nodupB (l.flatMap f) = true → ∀ a ∈ l, ∀ b ∈ l, ∀ n, n ∈ f a → n ∈ f b → a = b
  | [], _, a, ha, _, _, _, _, _ => by cases ha
  | c :: l, h, a, ha, b, hb, n, hna, hnb => by
    have key : ∀ (u v : List Nat), nodupB (u ++ v) = true → nodupB v = true ∧ ∀ n ∈ u, n ∉ v := by
      intro u
      induction u with
      | nil => intro v h; exact ⟨h, fun n hn => by cases hn⟩
      | cons x u ih =>
        intro v h
        simp only [List.cons_append, nodupB, Bool.and_eq_true, Bool.not_eq_true'] at h
        obtain ⟨i1, i2⟩ := ih v h.2
        refine ⟨i1, fun n hn => ?_⟩
        rcases List.mem_cons.1 hn with rfl | hn
        · have := h.1
          simp only [List.contains_eq_mem, decide_eq_false_iff_not, List.mem_append, not_or] at this
          exact this.2
        · exact i2 n hn
    rw [List.flatMap_cons] at h
    obtain ⟨h1, h2⟩ := key _ _ h
    rcases List.mem_cons.1 ha with ha' | ha' <;> rcases List.mem_cons.1 hb with hb' | hb'
    · rw [ha', hb']
    · rw [ha'] at hna; exact (h2 n hna (List.mem_flatMap.2 ⟨b, hb', hnb⟩)).elim
    · rw [hb'] at hnb; exact (h2 n hnb (List.mem_flatMap.2 ⟨a, ha', hna⟩)).elim
    · exact nodup_flat h1 a ha' b hb' n hna hnb

theorem mutJ_mem {l : Ents} {x : Nat × E × Blk} (hx : x ∈ l) {b : Nat} (h : mutB F ρ ad x.1 x.2.2 = some b) : x.1 ∈ mutJ l := by
  unfold mutJ
  refine List.mem_filterMap.2 ⟨x, hx, ?_⟩
  revert h
  cases x.2.2 with
  | cells ty cs => intro _; rfl
  | lst ty row own le c =>
    cases own with
    | true => intro _; rfl
    | false => intro h; simp [mutB] at h
  | mp => intro _; rfl
  | seg => intro _; rfl
  | dead => intro h; simp [mutB] at h

theorem freeB_spec {nm k : Nat} (h : freeB m nm k = true) {i : Nat} (hi : i < k) : nm + i < m.length ∧ (m.at (nm + i)).isNone = true := by
  unfold freeB at h
  have := List.all_eq_true.1 h i (List.mem_range.2 hi)
  simpa using this

theorem objSet_spec {srcs : List Src} : ∀ {os : List Ob} {vs : List SV} {l : List (Nat × E × Blk)}, objSet srcs m os vs = some l →
    ∀ y ∈ l, ∃ j b0, srcs[j]? = some (.nm y.1) ∧ j ∈ os.map (·.j) ∧ (j, mkB true, y.2.2) ∈ objE os vs ∧ m.at y.1 = some (y.2.1, b0)
  | [], vs, l, h, y, hy => by simp [objSet] at h; subst h; cases hy
  | o :: r, vs, l, h, y, hy => by
    simp only [objSet] at h
    split at h
    · rename_i n hn
      split at h
      · rename_i g b0 hm
        split at h
        · obtain ⟨l', hl, rfl⟩ := Option.map_eq_some_iff.1 h
          rcases List.mem_cons.1 hy with rfl | hy
          · exact ⟨o.j, b0, hn, by simp, by simp only [objE]; exact List.mem_cons_self .., hm⟩
          · obtain ⟨j', b0', a1, a2, a3, a4⟩ := objSet_spec hl y hy
            exact ⟨j', b0', a1, by simp at a2 ⊢; exact Or.inr a2, by simp only [objE]; exact List.mem_cons_of_mem _ a3, a4⟩
        · cases h
      · cases h
    · cases h
theorem objSet_has {srcs : List Src} : ∀ {os : List Ob} {vs : List SV} {l : List (Nat × E × Blk)}, objSet srcs m os vs = some l → ∀ j ∈ os.map (·.j), ∃ n, srcs[j]? = some (.nm n) ∧ ∃ y ∈ l, y.1 = n
  | [], vs, l, h, j, hj => by simp at hj
  | o :: r, vs, l, h, j, hj => by
    simp only [objSet] at h
    split at h
    · rename_i n hn
      split at h
      · rename_i g b0 hm
        split at h
        · obtain ⟨l', hl, rfl⟩ := Option.map_eq_some_iff.1 h
          simp only [List.map_cons, List.mem_cons] at hj
          rcases hj with rfl | hj
          · exact ⟨n, hn, _, List.mem_cons_self .., rfl⟩
          · obtain ⟨n', a1, y, a2, a3⟩ := objSet_has hl j hj
            exact ⟨n', a1, y, List.mem_cons_of_mem _ a2, a3⟩
        · cases h
      · cases h
    · cases h
/-- Where codes stand, at two readings. -/
def isXv : SV → Bool
  | .sc c => decide (c.kind = .x)
  | _ => false
theorem isX_eq (vs : List SV) : isX vs = (vs.map isXv).headD false := by
  cases vs with
  | nil => rfl
  | cons v r => cases v <;> rfl
theorem isXv_gen {ev1 ev2 : Nat → E} {nv1 nv2 : Nat → Nat} (hk : ∀ i, (ev1 i).kind = (ev2 i).kind) : ∀ (L : List Sh) (g1 g2 : E) (vi ni : Nat), (Sh.genL ev1 nv1 L g1 vi ni).1.map isXv = (Sh.genL ev2 nv2 L g2 vi ni).1.map isXv
  | [], _, _, _, _ => rfl
  | s :: r, g1, g2, vi, ni => by
    have ih := isXv_gen (nv1 := nv1) (nv2 := nv2) hk r g1 g2 (vi + s.ks.length) (ni + s.nn)
    simp only [Sh.genL, List.map_cons, ih]
    congr 1
    cases s <;> simp only [Sh.gen, isXv, hk]
theorem isXv_get {ev : Nat → E} {nv : Nat → Nat} : ∀ (L : List Sh) (acc : List Src) (vs : List SV) (r : List E × List Src × E) (g : E) (vi ni : Nat), Sh.getL m L acc vs = some r → (∀ i k, (Sh.ksL L)[i]? = some k → (ev (vi + i)).kind = k) → vs.map isXv = (Sh.genL ev nv L g vi ni).1.map isXv
  | [], acc, [], r, g, vi, ni, h, hk => rfl
  | [], acc, _ :: _, r, g, vi, ni, h, hk => by simp [Sh.getL] at h
  | _ :: _, acc, [], r, g, vi, ni, h, hk => by simp [Sh.getL] at h
  | s :: L, acc, v :: vs, r, g, vi, ni, h, hk => by
    simp only [Sh.getL] at h
    split at h
    · rename_i es ns g' hs
      obtain ⟨q, hq, rfl⟩ := Option.map_eq_some_iff.1 h
      have ih := isXv_get (nv := nv) L _ vs q g (vi + s.ks.length) (ni + s.nn) hq (fun i k hi => by
        have := hk (s.ks.length + i) k (by simp only [Sh.ksL]; rw [List.getElem?_append_right (by omega)]; simpa using hi)
        rwa [← Nat.add_assoc] at this)
      simp only [Sh.genL, List.map_cons, ih]
      congr 1
      cases s with
      | sc k =>
        have h0 := hk 0 k (by simp [Sh.ksL, Sh.ks])
        rw [Nat.add_zero] at h0
        cases v <;> simp only [Sh.get, reduceCtorEq] at hs
        split at hs
        · rename_i hc
          simp only [Sh.gen, isXv, h0, hc.1]
        · cases hs
      | lt k n =>
        cases v with
        | sc e =>
          cases e <;> simp only [Sh.get, reduceCtorEq] at hs
          split at hs
          · rename_i hc
            obtain ⟨rfl, rfl⟩ := hc
            rfl
          · cases hs
        | _ => simp [Sh.get] at hs
      | lst ty row own =>
        have h' : getLst m ty row own v = some (es, ns, g') := by cases v <;> simpa only [Sh.get] using hs
        simp only [Sh.gen, isXv]
        cases v <;> first | rfl | simp [getLst, viewL] at h'
      | opt s =>
        have h' : getOpt (mkB true :: s.ks.map fun k => E.lit k 0, List.replicate s.nn Src.dm, mkB true) v (fun u => s.get m acc u) = some (es, ns, g') := by cases v <;> simpa only [Sh.get] using hs
        simp only [Sh.gen, isXv]
        cases v <;> first | rfl | simp [getOpt, optV] at h'
      | _ => cases v <;> first | rfl | simp [Sh.get] at hs
    · cases h

/-- The new cells of objects, at two readings. -/
theorem objE_same {F1 F2 : Fam} {ρ1 ρ2 : Nat → Int} {ad1 ad2 : Nat → Hd} : ∀ {os : List Ob} {vs us : List SV}, SV.concL F1 ρ1 ad1 vs = SV.concL F2 ρ2 ad2 us → vs.map isXv = us.map isXv → ∀ j X, (j, mkB true, X) ∈ objE os vs →
    ∃ ty tl vs' us', X = mkO ty tl vs' ∧ (j, mkB true, mkO ty tl us') ∈ objE os us ∧ SV.concL F1 ρ1 ad1 vs' = SV.concL F2 ρ2 ad2 us' ∧ isX vs' = isX us'
  | [], vs, us, h, hx, j, X, hm => by simp [objE] at hm
  | o :: r, vs, us, h, hx, j, X, hm => by
    simp only [objE, List.mem_cons, Prod.mk.injEq, true_and] at hm
    have ht : ∀ n, SV.concL F1 ρ1 ad1 (vs.take n) = SV.concL F2 ρ2 ad2 (us.take n) := fun n => by
      rw [concL_eq, concL_eq] at h ⊢; rw [List.map_take, List.map_take, h]
    have hd : ∀ n, SV.concL F1 ρ1 ad1 (vs.drop n) = SV.concL F2 ρ2 ad2 (us.drop n) := fun n => by
      rw [concL_eq, concL_eq] at h ⊢; rw [List.map_drop, List.map_drop, h]
    rcases hm with ⟨rfl, rfl⟩ | hm
    · exact ⟨o.ty, o.tl, _, us.take o.cs.length, rfl, by simp [objE], ht _, by rw [isX_eq, isX_eq, List.map_take, List.map_take, hx]⟩
    · obtain ⟨ty, tl, vs', us', a1, a2, a3, a4⟩ := objE_same (hd o.cs.length) (by rw [List.map_drop, List.map_drop, hx]) j X hm
      exact ⟨ty, tl, vs', us', a1, by simp only [objE]; exact List.mem_cons_of_mem _ a2, a3, a4⟩
theorem objE_j {os : List Ob} {vs : List SV} : ∀ x ∈ objE os vs, x.1 ∈ os.map (·.j) := by
  induction os generalizing vs with
  | nil => intro x hx; cases hx
  | cons o r ih =>
    intro x hx
    simp only [objE, List.mem_cons] at hx
    rcases hx with rfl | hx
    · simp
    · exact List.mem_cons_of_mem _ (ih x hx)
theorem objE_ok {p : Nat → Prop} {os : List Ob} {vs : List SV} (h : SV.okL p vs) : ∀ x ∈ objE os vs, SV.okL p x.2.2.cs := by
  induction os generalizing vs with
  | nil => intro x hx; cases hx
  | cons o r ih =>
    intro x hx
    simp only [objE, List.mem_cons] at hx
    rcases hx with rfl | hx
    · exact mkO_ok (okL_take h _)
    · exact ih (okL_drop h _) x hx
theorem lastV_conc {F1 F2 : Fam} {ρ1 ρ2 : Nat → Int} {ad1 ad2 : Nat → Hd} {vs us : List SV} (h : SV.concL F1 ρ1 ad1 vs = SV.concL F2 ρ2 ad2 us) : (lastV vs).conc F1 ρ1 ad1 = (lastV us).conc F2 ρ2 ad2 := by
  rw [concL_eq, concL_eq] at h
  have hl : ∀ (F : Fam) (ρ : Nat → Int) (ad : Nat → Hd) (l : List SV), (lastV l).conc F ρ ad = (l.map (SV.conc F ρ ad)).getLastD undef := fun F ρ ad l => by
    unfold lastV
    cases l with
    | nil => rfl
    | cons a l => rw [List.getLastD_eq_getLast?, List.getLastD_eq_getLast?, List.getLast?_map]; cases hh : (a :: l).getLast? with
      | none => rfl
      | some x => rfl
  rw [hl, hl, h]
theorem lastV_ok {p : Nat → Prop} {vs : List SV} (h : SV.okL p vs) : (lastV vs).ok p := by
  unfold lastV
  rw [List.getLastD_eq_getLast?]
  cases hh : vs.getLast? with
  | none => trivial
  | some x => exact (okL_iff p vs).1 h x (List.mem_of_getLast? hh)
end
end Go.Proofs.Ytmolkkphnehgcaa.Ew
