/- How the memory of named things goes on behind a write or a new thing. -/
import Derived.Test.YtmolkkphnehgcaaWI
set_option linter.unusedVariables false
set_option linter.unusedSimpArgs false
namespace Go.Proofs.Ytmolkkphnehgcaa.Ew
open Go Go.RowKit

def upd (ad : Nat → Hd) (n : Nat) (h : Hd) : Nat → Hd := fun k => if k = n then h else ad k

section
variable {P : Program} {F : Fam} {ρ : Nat → Int} {G : Glob} {w0 w w' : World} {M0 Im0 Im Im' T : Nat → Prop} {ad ad' : Nat → Hd} {m m' : Mem}

theorem upd_same (ad : Nat → Hd) (n : Nat) (h : Hd) : upd ad n h n = h := by simp [upd]
theorem upd_other (ad : Nat → Hd) {n k : Nat} (h : Hd) (hk : k ≠ n) : upd ad n h k = ad k := by simp [upd, hk]
theorem upd_al {nm : Nat} (h : (m.at nm).isNone = true) (hd : Hd) : ∀ k, al m k → ad k = upd ad nm hd k := fun k hk => by
  rw [upd_other]
  rintro rfl
  rw [Option.isNone_iff_eq_none] at h
  simp [al, h] at hk

/-- What a name stands for turns; its block may have been written. -/
theorem RelI.turn (hR : RelI F ρ w0 M0 Im ad m w) {n : Nat} {g : E} {x y : Blk} (hn : m.at n = some (g, x)) (hf : Fr T w w') (hT : ∀ b, T b → mutB F ρ ad n x = some b ∧ g.tt F ρ = true)
    (hb : g.tt F ρ = true → BlkOK F ρ Im ad n w' y) (hm : ∀ b, mutB F ρ ad n y = some b → mutB F ρ ad n x = some b) (hok : SV.okL (al m) y.cs) :
    RelI F ρ w0 M0 Im ad (m.set n (some (g, y))) w' := by
  have hl := Mem.at_lt hn
  have hTl : ∀ b, T b → ((M0 b ∨ w0.heap.size ≤ b) ∧ ¬ Im b) ∧ b < w.heap.size := fun b t => by
    have := (hR.ent n g x hn (hT b t).2).2 b (hT b t).1
    exact ⟨⟨this.1, this.2.1⟩, this.2.2⟩
  have hIm : ∀ b, Im b → Im b ∧ w'.heap[b]? = w.heap[b]? := fun b hb => ⟨hb, hf.block b (hR.im b hb) fun t => (hTl b t).1.2 hb⟩
  refine ⟨fun k g' z hk hg' => ?_, fun k g' x0 hk => ?_, fun k k' g1 z1 g2 z2 b h1 h2 h3 h4 h5 h6 => ?_, fun b hb => Nat.lt_of_lt_of_le (hR.im b hb) hf.size, hR.fr.trans hf fun b hb t => ?_⟩
  · by_cases hkn : n = k
    · subst hkn
      rw [Mem.at_set_same hl] at hk
      simp only [Option.some.injEq, Prod.mk.injEq] at hk
      obtain ⟨rfl, rfl⟩ := hk
      refine ⟨hb hg', fun b hbb => ?_⟩
      have := (hR.ent n g x hn hg').2 b (hm b hbb)
      exact ⟨this.1, this.2.1, Nat.lt_of_lt_of_le this.2.2 hf.size⟩
    · rw [Mem.at_set_other hkn] at hk
      obtain ⟨i1, i2⟩ := hR.ent k g' z hk hg'
      refine ⟨i1.fr hIm (fun b hb => hf.block b (i2 b hb).2.2 fun t => hkn (hR.inj n k g x g' z b hn (hT b t).2 hk hg' (hT b t).1 hb)) rfl rfl, fun b hbb => ?_⟩
      exact ⟨(i2 b hbb).1, (i2 b hbb).2.1, Nat.lt_of_lt_of_le (i2 b hbb).2.2 hf.size⟩
  · by_cases hkn : n = k
    · subst hkn
      rw [Mem.at_set_same hl] at hk
      simp only [Option.some.injEq, Prod.mk.injEq] at hk
      rw [← hk.2]
      exact SV.okL_mono (fun k hk => (al_set hn k).2 hk) _ hok
    · rw [Mem.at_set_other hkn] at hk
      exact SV.okL_mono (fun k hk => (al_set hn k).2 hk) _ (hR.ok k g' x0 hk)
  · have key : ∀ k g' z, (Mem.at (m.set n (some (g, y))) k) = some (g', z) → g'.tt F ρ = true → mutB F ρ ad k z = some b → ∃ z', m.at k = some (g', z') ∧ mutB F ρ ad k z' = some b := fun k g' z hk hg' hb => by
      by_cases hkn : n = k
      · subst hkn
        rw [Mem.at_set_same hl] at hk
        simp only [Option.some.injEq, Prod.mk.injEq] at hk
        obtain ⟨rfl, rfl⟩ := hk
        exact ⟨x, hn, hm b hb⟩
      · rw [Mem.at_set_other hkn] at hk
        exact ⟨z, hk, hb⟩
    obtain ⟨z1', a1, a2⟩ := key k g1 z1 h1 h2 h5
    obtain ⟨z2', b1, b2⟩ := key k' g2 z2 h3 h4 h6
    exact hR.inj k k' g1 z1' g2 z2' b a1 h2 b1 h4 a2 b2
  · rcases (hTl b t).1.1 with h | h
    · exact h
    · omega

/-- A new name; some names die, whose blocks may have been written. -/
theorem RelI.put (hR : RelI F ρ w0 M0 Im ad m w) {ns : List Nat} {nm : Nat} {g : E} {y : Blk} {hd : Hd} (hf : Fr T w w')
    (hT : ∀ b, T b → b < w.heap.size → ∃ n ∈ ns, ∃ g' x, m.at n = some (g', x) ∧ g'.tt F ρ = true ∧ mutB F ρ ad n x = some b)
    (h1 : nm < m.length) (h2 : (m.at nm).isNone = true) (hb : BlkOK F ρ Im (upd ad nm hd) nm w' y)
    (hm : ∀ b, mutB F ρ (upd ad nm hd) nm y = some b → b < w'.heap.size ∧ (w.heap.size ≤ b ∨ ∃ n ∈ ns, ∃ g' x, m.at n = some (g', x) ∧ g'.tt F ρ = true ∧ mutB F ρ ad n x = some b))
    (hok : SV.okL (al m) y.cs) : RelI F ρ w0 M0 Im (upd ad nm hd) ((killL m ns).set nm (some (g, y))) w' := by
  have hTl : ∀ b, (∃ n ∈ ns, ∃ g' x, m.at n = some (g', x) ∧ g'.tt F ρ = true ∧ mutB F ρ ad n x = some b) → (M0 b ∨ w0.heap.size ≤ b) ∧ ¬ Im b ∧ b < w.heap.size := fun b ⟨n, _, g', x, h3, h4, h5⟩ => (hR.ent n g' x h3 h4).2 b h5
  have hIm : ∀ b, Im b → Im b ∧ w'.heap[b]? = w.heap[b]? := fun b hb => ⟨hb, hf.block b (hR.im b hb) fun t => (hTl b (hT b t (hR.im b hb))).2.1 hb⟩
  have hlk : nm < (killL m ns).length := by rw [killL_len]; exact h1
  have hal : ∀ k, al m k → al ((killL m ns).set nm (some (g, y))) k := fun k hk => al_set_new hlk k ((killL_al ns m k).2 hk)
  have hcase : ∀ k g' z, Mem.at ((killL m ns).set nm (some (g, y))) k = some (g', z) → (k = nm ∧ g' = g ∧ z = y) ∨ (k ≠ nm ∧ (z = .dead ∨ (m.at k = some (g', z) ∧ k ∉ ns))) := fun k g' z hk => by
    by_cases hkn : nm = k
    · subst hkn
      rw [Mem.at_set_same hlk] at hk
      simp only [Option.some.injEq, Prod.mk.injEq] at hk
      exact Or.inl ⟨rfl, hk.1.symm, hk.2.symm⟩
    · rw [Mem.at_set_other hkn] at hk
      exact Or.inr ⟨fun e => hkn e.symm, killL_at hk⟩
  have hw0 := hR.fr.size
  refine ⟨fun k g' z hk hg' => ?_, fun k g' x0 hk => ?_, fun k k' g1 z1 g2 z2 b a1 a2 a3 a4 a5 a6 => ?_, fun b hb => Nat.lt_of_lt_of_le (hR.im b hb) hf.size, hR.fr.trans hf fun b hb t => ?_⟩
  · rcases hcase k g' z hk with ⟨rfl, rfl, rfl⟩ | ⟨hne, rfl | ⟨hk', hns⟩⟩
    · refine ⟨hb, fun b hbb => ?_⟩
      obtain ⟨m1, m2⟩ := hm b hbb
      rcases m2 with m2 | m2
      · exact ⟨Or.inr (by omega), fun hi => by have := hR.im b hi; omega, m1⟩
      · exact ⟨(hTl b m2).1, (hTl b m2).2.1, m1⟩
    · exact ⟨trivial, fun b hbb => by simp [mutB] at hbb⟩
    · obtain ⟨i1, i2⟩ := hR.ent k g' z hk' hg'
      refine ⟨i1.fr hIm (fun b hbb => hf.block b (i2 b hbb).2.2 fun t => ?_) (upd_other ad hd hne) ?_, fun b hbb => ?_⟩
      · obtain ⟨n, hn, g'', x, e1, e2, e3⟩ := hT b t (i2 b hbb).2.2
        have := hR.inj n k g'' x g' z b e1 e2 hk' hg' e3 hbb
        subst this
        exact hns hn
      · exact (SV.concL_congr (upd_al h2 hd) z.cs (hR.ok k g' z hk')).symm
      · rw [mutB_congr (upd_other ad hd hne)] at hbb
        exact ⟨(i2 b hbb).1, (i2 b hbb).2.1, Nat.lt_of_lt_of_le (i2 b hbb).2.2 hf.size⟩
  · rcases hcase k g' _ hk with ⟨rfl, _, hy⟩ | ⟨hne, hd' | ⟨hk', _⟩⟩
    · rw [hy]; exact SV.okL_mono hal _ hok
    · rw [hd']; trivial
    · exact SV.okL_mono hal _ (hR.ok k g' x0 hk')
  · have new : ∀ k' g2 z2, Mem.at ((killL m ns).set nm (some (g, y))) k' = some (g2, z2) → g2.tt F ρ = true → mutB F ρ (upd ad nm hd) k' z2 = some b → mutB F ρ (upd ad nm hd) nm y = some b → k' = nm := fun k' g2 z2 a3 a4 a6 hyb => by
      rcases hcase k' g2 z2 a3 with ⟨rfl, _, _⟩ | ⟨hne, rfl | ⟨hk', hns⟩⟩
      · rfl
      · simp [mutB] at a6
      · exfalso
        rw [mutB_congr (upd_other ad hd hne)] at a6
        have hlt := ((hR.ent k' g2 z2 hk' a4).2 b a6).2.2
        rcases (hm b hyb).2 with h | ⟨n, hn, g'', x, e1, e2, e3⟩
        · omega
        · have := hR.inj n k' g'' x g2 z2 b e1 e2 hk' a4 e3 a6
          subst this
          exact hns hn
    rcases hcase k g1 z1 a1 with ⟨rfl, _, rfl⟩ | ⟨hne, rfl | ⟨hk1, _⟩⟩
    · exact (new k' g2 z2 a3 a4 a6 a5).symm
    · simp [mutB] at a5
    · rcases hcase k' g2 z2 a3 with ⟨rfl, _, rfl⟩ | ⟨hne', rfl | ⟨hk2, _⟩⟩
      · exact new k g1 z1 a1 a2 a5 a6
      · simp [mutB] at a6
      · rw [mutB_congr (upd_other ad hd hne)] at a5
        rw [mutB_congr (upd_other ad hd hne')] at a6
        exact hR.inj k k' g1 z1 g2 z2 b hk1 a2 hk2 a4 a5 a6
  · have := (hTl b (hT b t (by omega))).1
    rcases this with h | h
    · exact h
    · omega

theorem Rel.turn (hR : Rel F ρ w0 M0 Im0 ad m w) {n : Nat} {g : E} {x y : Blk} (hn : m.at n = some (g, x)) (hf : Fr T w w') (hT : ∀ b, T b → mutB F ρ ad n x = some b ∧ g.tt F ρ = true)
    (hb : ∀ Im, RelI F ρ w0 M0 Im ad m w → g.tt F ρ = true → BlkOK F ρ Im ad n w' y) (hm : ∀ b, mutB F ρ ad n y = some b → mutB F ρ ad n x = some b) (hok : SV.okL (al m) y.cs) :
    Rel F ρ w0 M0 Im0 ad (m.set n (some (g, y))) w' := by
  obtain ⟨h0, Im, h1, h2, hI⟩ := hR
  exact ⟨h0, Im, h1, h2, hI.turn hn hf hT (hb Im hI) hm hok⟩

theorem Ext.set (ad : Nat → Hd) {n : Nat} {x y} (hn : m.at n = some x) : Ext ad ad m (m.set n (some y)) := ⟨fun _ _ => rfl, fun k hk => (al_set hn k).2 hk⟩
theorem Ext.put {ns : List Nat} {nm : Nat} {y} (hd : Hd) (h1 : nm < m.length) (h2 : (m.at nm).isNone = true) : Ext ad (upd ad nm hd) m ((killL m ns).set nm (some y)) :=
  ⟨upd_al h2 hd, fun k hk => al_set_new (by rw [killL_len]; exact h1) k ((killL_al ns m k).2 hk)⟩
theorem al_put {ns : List Nat} {nm : Nat} {y} (h1 : nm < m.length) : al ((killL m ns).set nm (some y)) nm := by
  simp [al, Mem.at_set_same (m := killL m ns) (by rw [killL_len]; exact h1)]
end
end Go.Proofs.Ytmolkkphnehgcaa.Ew
