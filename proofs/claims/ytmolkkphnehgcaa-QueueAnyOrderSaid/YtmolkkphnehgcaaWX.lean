/- Merging of states; the ways out of a piece of code. -/
import Derived.Test.YtmolkkphnehgcaaWV
set_option linter.unusedVariables false
set_option linter.unusedSimpArgs false
namespace Go.Proofs.Ytmolkkphnehgcaa.Ew
open Go Go.RowKit

/-! ### merging of memories -/
def mergeBlk (c : E) : Option (E × Blk) → Option (E × Blk) → Option (E × Blk)
  | some (g, .cells ty cs), some (g', .cells ty' cs') => if ty = ty' ∧ cs.length = cs'.length ∧ g.kind = .b ∧ g'.kind = .b then some (mkIte c g g', .cells ty (mergeL c cs cs')) else some (mkB true, .dead)
  | some (g, .lst ty row own le k), some (g', .lst ty' row' own' le' k') =>
    if ty = ty' ∧ row = row' ∧ own = own' ∧ le.same le' = true ∧ k.kind = .x ∧ k'.kind = .x ∧ g.kind = .b ∧ g'.kind = .b then some (mkIte c g g', .lst ty row own le (mkIte c k k')) else some (mkB true, .dead)
  | some (g, .mp ks vs ka va k), some (g', .mp ks' vs' ka' va' k') =>
    if ks = ks' ∧ vs = vs' ∧ ka = ka' ∧ va = va' ∧ k.kind = .x ∧ k'.kind = .x ∧ g.kind = .b ∧ g'.kind = .b then some (mkIte c g g', .mp ks vs ka va (mkIte c k k')) else some (mkB true, .dead)
  | some (g, .seg ty cs ks k), some (g', .seg ty' cs' ks' k') =>
    if ty = ty' ∧ ks = ks' ∧ cs.length = cs'.length ∧ k.kind = .x ∧ k'.kind = .x ∧ g.kind = .b ∧ g'.kind = .b then some (mkIte c g g', .seg ty (mergeL c cs cs') ks (mkIte c k k')) else some (mkB true, .dead)
  | some (g, b), none => if g.kind = .b then some (mkAnd c g, b) else some (mkB true, .dead)
  | none, some (g, b) => if g.kind = .b then some (mkAnd (mkNot c) g, b) else some (mkB true, .dead)
  | none, none => none
  | some (_, .dead), some (_, .dead) => some (mkB true, .dead)
  | some (g, b), some (_, .dead) => if g.kind = .b then some (mkAnd c g, b) else some (mkB true, .dead)
  | some (_, .dead), some (g, b) => if g.kind = .b then some (mkAnd (mkNot c) g, b) else some (mkB true, .dead)
  | some _, some _ => some (mkB true, .dead)

section
variable {P : Program} {F : Fam} {ρ : Nat → Int} {G : Glob} {w0 w : World} {M0 Im0 Im : Nat → Prop} {ad : Nat → Hd} {m m1 m2 : Mem} {tm : Tm} {en : Env} {a : Act}

theorem mergeBlk_some (c : E) (x y : Option (E × Blk)) : (mergeBlk c x y).isSome = (x.isSome || y.isSome) := by
  rcases x with _ | ⟨g, b⟩ <;> rcases y with _ | ⟨g', b'⟩
  · rfl
  · simp only [mergeBlk]; split <;> rfl
  · cases b <;> simp only [mergeBlk] <;> split <;> rfl
  · cases b <;> cases b' <;> simp only [mergeBlk] <;> (try split) <;> rfl

/-- What a merged entry says where the condition decides. -/
theorem mergeBlk_spec {c : E} (hc : c.kind = .b) {x y : Option (E × Blk)} {g : E} {b : Blk} (h : mergeBlk c x y = some (g, b)) (hg : g.tt F ρ = true) :
    b = .dead ∨ ∃ g' b', (bif c.tt F ρ then x else y) = some (g', b') ∧ g'.tt F ρ = true ∧ (∀ (Im : Nat → Prop) (ad : Nat → Hd) (n : Nat) (w : World), BlkOK F ρ Im ad n w b' → BlkOK F ρ Im ad n w b) ∧
      (∀ (ad : Nat → Hd) (n : Nat), mutB F ρ ad n b = mutB F ρ ad n b') := by
  have one : ∀ {g1 : E} {b1 : Blk} {z : Option (E × Blk)} {q : E}, z = some (g1, b1) → g1.kind = .b → q.kind = .b → (mkAnd q g1).tt F ρ = true → q.tt F ρ = true ∧ g1.tt F ρ = true := fun {g1 b1 z q} _ hk hq ht => by
    rw [(mkAnd_spec q g1 hq hk F ρ).1, Bool.and_eq_true] at ht; exact ht
  rcases x with _ | ⟨g1, b1⟩ <;> rcases y with _ | ⟨g2, b2⟩
  · simp [mergeBlk] at h
  · simp only [mergeBlk] at h
    split at h
    · rename_i hk
      simp only [Option.some.injEq, Prod.mk.injEq] at h
      obtain ⟨rfl, rfl⟩ := h
      obtain ⟨h1, h2⟩ := one (z := some (g2, b2)) rfl hk (mkNot_spec c F ρ).2 hg
      rw [(mkNot_spec c F ρ).1] at h1
      have hcf : c.tt F ρ = false := by simpa using h1
      exact Or.inr ⟨g2, b2, by rw [hcf]; rfl, h2, fun _ _ _ _ h => h, fun _ _ => rfl⟩
    · simp only [Option.some.injEq, Prod.mk.injEq] at h; exact Or.inl h.2.symm
  · have h' : (if g1.kind = .b then some (mkAnd c g1, b1) else some (mkB true, Blk.dead)) = some (g, b) := by cases b1 <;> simpa only [mergeBlk] using h
    split at h'
    · rename_i hk
      simp only [Option.some.injEq, Prod.mk.injEq] at h'
      obtain ⟨rfl, rfl⟩ := h'
      obtain ⟨h1, h2⟩ := one (z := some (g1, b1)) rfl hk hc hg
      exact Or.inr ⟨g1, b1, by rw [h1]; rfl, h2, fun _ _ _ _ h => h, fun _ _ => rfl⟩
    · simp only [Option.some.injEq, Prod.mk.injEq] at h'; exact Or.inl h'.2.symm
  · have gite : ∀ {p q : E}, p.kind = .b → q.kind = .b → (mkIte c p q).tt F ρ = true → (bif c.tt F ρ then p.tt F ρ else q.tt F ρ) = true := fun {p q} h1 h2 h3 => by rw [(mkIte_b hc h1 h2).2] at h3; exact h3
    cases b1 <;> cases b2 <;> simp only [mergeBlk] at h
    case cells.cells ty cs ty' cs' =>
      split at h
      · rename_i hh
        obtain ⟨rfl, hl, k1, k2⟩ := hh
        simp only [Option.some.injEq, Prod.mk.injEq] at h
        obtain ⟨rfl, rfl⟩ := h
        have ht := gite k1 k2 hg
        right
        cases hct : c.tt F ρ
        · rw [hct] at ht
          exact ⟨g2, _, rfl, ht, fun Im ad n w hb => by simp only [BlkOK] at hb ⊢; rw [mergeL_conc hc _ _ hl, hct]; exact hb, fun _ _ => rfl⟩
        · rw [hct] at ht
          exact ⟨g1, _, rfl, ht, fun Im ad n w hb => by simp only [BlkOK] at hb ⊢; rw [mergeL_conc hc _ _ hl, hct]; exact hb, fun _ _ => rfl⟩
      · simp only [Option.some.injEq, Prod.mk.injEq] at h; exact Or.inl h.2.symm
    case lst.lst ty row own le k ty' row' own' le' k' =>
      split at h
      · rename_i hh
        obtain ⟨rfl, rfl, rfl, hle, x1, x2, k1, k2⟩ := hh
        have := E.same_eq _ _ hle
        subst this
        simp only [Option.some.injEq, Prod.mk.injEq] at h
        obtain ⟨rfl, rfl⟩ := h
        have ht := gite k1 k2 hg
        have hx := (mkIte_x (F := F) (ρ := ρ) hc x1 x2).2
        right
        cases hct : c.tt F ρ
        · rw [hct] at ht hx
          exact ⟨g2, _, rfl, ht, fun Im ad n w hb => by simp only [BlkOK, hx, cond_false] at hb ⊢; exact hb, fun ad n => by cases own <;> rfl⟩
        · rw [hct] at ht hx
          exact ⟨g1, _, rfl, ht, fun Im ad n w hb => by simp only [BlkOK, hx, cond_true] at hb ⊢; exact hb, fun ad n => by cases own <;> rfl⟩
      · simp only [Option.some.injEq, Prod.mk.injEq] at h; exact Or.inl h.2.symm
    case mp.mp ks vs ka va k ks' vs' ka' va' k' =>
      split at h
      · rename_i hh
        obtain ⟨rfl, rfl, rfl, rfl, x1, x2, k1, k2⟩ := hh
        simp only [Option.some.injEq, Prod.mk.injEq] at h
        obtain ⟨rfl, rfl⟩ := h
        have ht := gite k1 k2 hg
        have hx := (mkIte_x (F := F) (ρ := ρ) hc x1 x2).2
        right
        cases hct : c.tt F ρ
        · rw [hct] at ht hx
          exact ⟨g2, _, rfl, ht, fun Im ad n w hb => by simp only [BlkOK, hx, cond_false] at hb ⊢; exact hb, fun _ _ => rfl⟩
        · rw [hct] at ht hx
          exact ⟨g1, _, rfl, ht, fun Im ad n w hb => by simp only [BlkOK, hx, cond_true] at hb ⊢; exact hb, fun _ _ => rfl⟩
      · simp only [Option.some.injEq, Prod.mk.injEq] at h; exact Or.inl h.2.symm
    case seg.seg ty cs ks k ty' cs' ks' k' =>
      split at h
      · rename_i hh
        obtain ⟨rfl, rfl, hl, x1, x2, k1, k2⟩ := hh
        simp only [Option.some.injEq, Prod.mk.injEq] at h
        obtain ⟨rfl, rfl⟩ := h
        have ht := gite k1 k2 hg
        have hx := (mkIte_x (F := F) (ρ := ρ) hc x1 x2).2
        right
        cases hct : c.tt F ρ
        · rw [hct] at ht hx
          exact ⟨g2, _, rfl, ht, fun Im ad n w hb => by simp only [BlkOK, hx, cond_false] at hb ⊢; rw [mergeL_conc hc _ _ hl, hct]; exact hb, fun _ _ => rfl⟩
        · rw [hct] at ht hx
          exact ⟨g1, _, rfl, ht, fun Im ad n w hb => by simp only [BlkOK, hx, cond_true] at hb ⊢; rw [mergeL_conc hc _ _ hl, hct]; exact hb, fun _ _ => rfl⟩
      · simp only [Option.some.injEq, Prod.mk.injEq] at h; exact Or.inl h.2.symm
    all_goals first
      | (simp only [Option.some.injEq, Prod.mk.injEq] at h; exact Or.inl h.2.symm)
      | (split at h
         · rename_i hk
           simp only [Option.some.injEq, Prod.mk.injEq] at h
           obtain ⟨rfl, rfl⟩ := h
           first
             | (obtain ⟨h1, h2⟩ := one (z := some (g1, Blk.dead)) rfl hk hc hg
                exact Or.inr ⟨g1, _, by rw [h1]; rfl, h2, fun _ _ _ _ h => h, fun _ _ => rfl⟩)
             | (obtain ⟨h1, h2⟩ := one (z := some (g2, Blk.dead)) rfl hk (mkNot_spec c F ρ).2 hg
                rw [(mkNot_spec c F ρ).1] at h1
                have hcf : c.tt F ρ = false := by simpa using h1
                exact Or.inr ⟨g2, _, by rw [hcf]; rfl, h2, fun _ _ _ _ h => h, fun _ _ => rfl⟩)
         · simp only [Option.some.injEq, Prod.mk.injEq] at h; exact Or.inl h.2.symm)

theorem mergeBlk_cells {c : E} {x y : Option (E × Blk)} {g : E} {b : Blk} (h : mergeBlk c x y = some (g, b)) {p : Nat → Prop} (hx : ∀ g b, x = some (g, b) → SV.okL p b.cs) (hy : ∀ g b, y = some (g, b) → SV.okL p b.cs) : SV.okL p b.cs := by
  rcases x with _ | ⟨g1, b1⟩ <;> rcases y with _ | ⟨g2, b2⟩
  · simp [mergeBlk] at h
  · simp only [mergeBlk] at h
    split at h <;> simp only [Option.some.injEq, Prod.mk.injEq] at h <;> obtain ⟨_, rfl⟩ := h
    · exact hy _ _ rfl
    · trivial
  · have h' : (if g1.kind = .b then some (mkAnd c g1, b1) else some (mkB true, Blk.dead)) = some (g, b) := by cases b1 <;> simpa only [mergeBlk] using h
    split at h' <;> simp only [Option.some.injEq, Prod.mk.injEq] at h' <;> obtain ⟨_, rfl⟩ := h'
    · exact hx _ _ rfl
    · trivial
  · have h1 := hx _ _ rfl
    have h2 := hy _ _ rfl
    cases b1 <;> cases b2 <;> simp only [mergeBlk] at h <;> (try split at h) <;> simp only [Option.some.injEq, Prod.mk.injEq] at h <;> obtain ⟨_, rfl⟩ := h <;>
      first | trivial | exact h1 | exact h2 | exact mergeL_ok _ _ h1 h2

/-- A memory each entry of which is that of both, or merged of both. -/
def PM (c : E) (m1 m2 m : Mem) : Prop := ∀ n, (m.at n = m1.at n ∧ m.at n = m2.at n) ∨ m.at n = mergeBlk c (m1.at n) (m2.at n)
theorem PM.al {c : E} (h : PM c m1 m2 m) (n : Nat) : al m n ↔ al m1 n ∨ al m2 n := by
  unfold Ew.al
  rcases h n with ⟨h1, h2⟩ | h1
  · rw [← h1, ← h2]; simp
  · rw [h1, mergeBlk_some]; simp
/-- Where the condition decides for one of both, the merged memory tells of the world as that one does. -/
theorem PM.rel {c : E} (hc : c.kind = .b) (h : PM c m1 m2 m) {t : Bool} (ht : c.tt F ρ = t) (hR : Rel F ρ w0 M0 Im0 ad (bif t then m1 else m2) w)
    (hok : ∀ n g x, (bif t then m2 else m1).at n = some (g, x) → SV.okL (Ew.al (bif t then m2 else m1)) x.cs) : Rel F ρ w0 M0 Im0 ad m w := by
  obtain ⟨hM, Im, h1, h2, hI⟩ := hR
  have key : ∀ n g x, m.at n = some (g, x) → g.tt F ρ = true → x = .dead ∨ ∃ g' x', (bif t then m1 else m2).at n = some (g', x') ∧ g'.tt F ρ = true ∧ (∀ w, BlkOK F ρ Im ad n w x' → BlkOK F ρ Im ad n w x) ∧ mutB F ρ ad n x = mutB F ρ ad n x' := fun n g x hn hg => by
    rcases h n with ⟨e1, e2⟩ | e1
    · right
      refine ⟨g, x, ?_, hg, fun _ h => h, rfl⟩
      cases t
      · simp only [cond_false]; rw [← e2]; exact hn
      · simp only [cond_true]; rw [← e1]; exact hn
    · rw [hn] at e1
      rcases mergeBlk_spec hc e1.symm hg with hd | ⟨g', b', f1, f2, f3, f4⟩
      · exact Or.inl hd
      · right
        refine ⟨g', b', ?_, f2, fun w hb => f3 Im ad n w hb, f4 ad n⟩
        rw [ht] at f1
        cases t <;> exact f1
  have hal1 : ∀ k, Ew.al (bif t then m1 else m2) k → Ew.al m k := fun k hk => by
    rw [h.al]; cases t
    · exact Or.inr hk
    · exact Or.inl hk
  have hal2 : ∀ k, Ew.al (bif t then m2 else m1) k → Ew.al m k := fun k hk => by
    rw [h.al]; cases t
    · exact Or.inl hk
    · exact Or.inr hk
  refine ⟨hM, Im, h1, h2, fun n g x hn hg => ?_, fun n g x hn => ?_, fun n k g x g' y b a1 a2 a3 a4 a5 a6 => ?_, hI.im, hI.fr⟩
  · rcases key n g x hn hg with rfl | ⟨g', x', f1, f2, f3, f4⟩
    · exact ⟨trivial, fun b hb => by simp [mutB] at hb⟩
    · obtain ⟨i1, i2⟩ := hI.ent n g' x' f1 f2
      exact ⟨f3 w i1, fun b hb => i2 b (by rw [← f4]; exact hb)⟩
  · have ok1 : ∀ g x, (bif t then m1 else m2).at n = some (g, x) → SV.okL (Ew.al m) x.cs := fun g x hh => SV.okL_mono hal1 _ (hI.ok n g x hh)
    have ok2 : ∀ g x, (bif t then m2 else m1).at n = some (g, x) → SV.okL (Ew.al m) x.cs := fun g x hh => SV.okL_mono hal2 _ (hok n g x hh)
    rcases h n with ⟨e1, e2⟩ | e1
    · cases t
      · exact ok1 g x (by simp only [cond_false]; rw [← e2]; exact hn)
      · exact ok1 g x (by simp only [cond_true]; rw [← e1]; exact hn)
    · rw [hn] at e1
      cases t
      · exact mergeBlk_cells e1.symm ok2 ok1
      · exact mergeBlk_cells e1.symm ok1 ok2
  · rcases key n g x a1 a2 with rfl | ⟨g1, x1, f1, f2, f3, f4⟩
    · simp [mutB] at a5
    · rcases key k g' y a3 a4 with rfl | ⟨g2, x2, e1, e2, e3, e4⟩
      · simp [mutB] at a6
      · exact hI.inj n k g1 x1 g2 x2 b f1 f2 e1 e2 (by rw [← f4]; exact a5) (by rw [← e4]; exact a6)
/-- .. where the condition does not hold, and what the merged memory speaks of is there. -/
theorem PM.rel' {c : E} (hc : c.kind = .b) (h : PM c m1 m2 m) (ht : c.tt F ρ = false) (hR : Rel F ρ w0 M0 Im0 ad m2 w)
    (hok : ∀ n g x, m1.at n = some (g, x) → SV.okL (Ew.al m) x.cs) : Rel F ρ w0 M0 Im0 ad m w := by
  obtain ⟨hM, Im, h1, h2, hI⟩ := hR
  have key : ∀ n g x, m.at n = some (g, x) → g.tt F ρ = true → x = .dead ∨ ∃ g' x', m2.at n = some (g', x') ∧ g'.tt F ρ = true ∧ (∀ w, BlkOK F ρ Im ad n w x' → BlkOK F ρ Im ad n w x) ∧ mutB F ρ ad n x = mutB F ρ ad n x' := fun n g x hn hg => by
    rcases h n with ⟨e1, e2⟩ | e1
    · exact Or.inr ⟨g, x, by rw [← e2]; exact hn, hg, fun _ h => h, rfl⟩
    · rw [hn] at e1
      rcases mergeBlk_spec hc e1.symm hg with hd | ⟨g', b', f1, f2, f3, f4⟩
      · exact Or.inl hd
      · rw [ht] at f1
        exact Or.inr ⟨g', b', f1, f2, fun w hb => f3 Im ad n w hb, f4 ad n⟩
  refine ⟨hM, Im, h1, h2, fun n g x hn hg => ?_, fun n g x hn => ?_, fun n k g x g' y b a1 a2 a3 a4 a5 a6 => ?_, hI.im, hI.fr⟩
  · rcases key n g x hn hg with rfl | ⟨g', x', f1, f2, f3, f4⟩
    · exact ⟨trivial, fun b hb => by simp [mutB] at hb⟩
    · obtain ⟨i1, i2⟩ := hI.ent n g' x' f1 f2
      exact ⟨f3 w i1, fun b hb => i2 b (by rw [← f4]; exact hb)⟩
  · have ok2 : ∀ g x, m2.at n = some (g, x) → SV.okL (Ew.al m) x.cs := fun g x hh => SV.okL_mono (fun k hk => (h.al k).2 (Or.inr hk)) _ (hI.ok n g x hh)
    rcases h n with ⟨e1, e2⟩ | e1
    · exact ok2 g x (by rw [← e2]; exact hn)
    · rw [hn] at e1
      exact mergeBlk_cells e1.symm (hok n) ok2
  · rcases key n g x a1 a2 with rfl | ⟨g1, x1, f1, f2, f3, f4⟩
    · simp [mutB] at a5
    · rcases key k g' y a3 a4 with rfl | ⟨g2, x2, e1, e2, e3, e4⟩
      · simp [mutB] at a6
      · exact hI.inj n k g1 x1 g2 x2 b f1 f2 e1 e2 (by rw [← f4]; exact a5) (by rw [← e4]; exact a6)
end

/-- Two memories side by side. -/
def tailG (f : Nat → Option (E × Blk) → Option (E × Blk) → Option (E × Blk)) : Nat → Mem → Mem
  | _, [] => []
  | n, y :: b => f n none y :: tailG f (n + 1) b
def zipG (f : Nat → Option (E × Blk) → Option (E × Blk) → Option (E × Blk)) : Nat → Mem → Mem → Mem
  | n, [], b => tailG f n b
  | n, x :: a, [] => f n x none :: zipG f (n + 1) a []
  | n, x :: a, y :: b => f n x y :: zipG f (n + 1) a b
theorem Mem.at_nil (n : Nat) : Mem.at [] n = none := by simp [Mem.at, List.getD]
theorem Mem.at_zero (x : Option (E × Blk)) (a : Mem) : Mem.at (x :: a) 0 = x := by simp [Mem.at, List.getD]
theorem Mem.at_succ (x : Option (E × Blk)) (a : Mem) (n : Nat) : Mem.at (x :: a) (n + 1) = Mem.at a n := by simp [Mem.at, List.getD]
theorem tailG_at {f : Nat → Option (E × Blk) → Option (E × Blk) → Option (E × Blk)} (hf : ∀ n, f n none none = none) : ∀ (b : Mem) (k n : Nat), (tailG f k b).at n = f (k + n) none (b.at n)
  | [], k, n => by simp only [tailG, Mem.at_nil, hf]
  | y :: b, k, 0 => by simp only [tailG, Mem.at_zero, Nat.add_zero]
  | y :: b, k, n + 1 => by
    simp only [tailG, Mem.at_succ, tailG_at hf b (k + 1) n]
    rw [show k + 1 + n = k + (n + 1) by omega]
theorem zipG_at {f : Nat → Option (E × Blk) → Option (E × Blk) → Option (E × Blk)} (hf : ∀ n, f n none none = none) : ∀ (a b : Mem) (k n : Nat), (zipG f k a b).at n = f (k + n) (a.at n) (b.at n)
  | [], b, k, n => by simp only [zipG, Mem.at_nil, tailG_at hf]
  | x :: a, [], k, 0 => by simp only [zipG, Mem.at_zero, Mem.at_nil, Nat.add_zero]
  | x :: a, [], k, n + 1 => by
    simp only [zipG, Mem.at_succ, Mem.at_nil, zipG_at hf a [] (k + 1) n]
    rw [show k + 1 + n = k + (n + 1) by omega]
  | x :: a, y :: b, k, 0 => by simp only [zipG, Mem.at_zero, Nat.add_zero]
  | x :: a, y :: b, k, n + 1 => by
    simp only [zipG, Mem.at_succ, zipG_at hf a b (k + 1) n]
    rw [show k + 1 + n = k + (n + 1) by omega]
/-- As long as the second one. -/
def zipR (f : Nat → Option (E × Blk) → Option (E × Blk) → Option (E × Blk)) : Nat → Mem → Mem → Mem
  | _, _, [] => []
  | n, [], y :: b => f n none y :: zipR f (n + 1) [] b
  | n, x :: a, y :: b => f n x y :: zipR f (n + 1) a b
theorem zipR_len {f : Nat → Option (E × Blk) → Option (E × Blk) → Option (E × Blk)} : ∀ (a b : Mem) (k : Nat), (zipR f k a b).length = b.length
  | [], [], k => rfl
  | _ :: _, [], k => rfl
  | [], y :: b, k => by simp only [zipR, List.length_cons, zipR_len [] b (k + 1)]
  | x :: a, y :: b, k => by simp only [zipR, List.length_cons, zipR_len a b (k + 1)]
theorem zipR_at {f : Nat → Option (E × Blk) → Option (E × Blk) → Option (E × Blk)} : ∀ (a b : Mem) (k n : Nat), n < b.length → (zipR f k a b).at n = f (k + n) (a.at n) (b.at n)
  | a, [], k, n, h => by simp at h
  | [], y :: b, k, 0, _ => by simp only [zipR, Mem.at_zero, Mem.at_nil, Nat.add_zero]
  | [], y :: b, k, n + 1, h => by
    simp only [zipR, Mem.at_succ, Mem.at_nil, zipR_at [] b (k + 1) n (by simpa using h)]
    rw [show k + 1 + n = k + (n + 1) by omega]
  | x :: a, y :: b, k, 0, _ => by simp only [zipR, Mem.at_zero, Nat.add_zero]
  | x :: a, y :: b, k, n + 1, h => by
    simp only [zipR, Mem.at_succ, zipR_at a b (k + 1) n (by simpa using h)]
    rw [show k + 1 + n = k + (n + 1) by omega]
/-- All entries merged, one by one. -/
def mergeM (c : E) (m1 m2 : Mem) : Mem := zipG (fun _ => mergeBlk c) 0 m1 m2
theorem mergeM_at (c : E) (m1 m2 : Mem) (n : Nat) : (mergeM c m1 m2).at n = mergeBlk c (m1.at n) (m2.at n) := by
  unfold mergeM
  rw [zipG_at (fun _ => rfl)]
theorem mergeM_PM (c : E) (m1 m2 : Mem) : PM c m1 m2 (mergeM c m1 m2) := fun n => Or.inr (mergeM_at c m1 m2 n)

/-- Names whose lists are of the call's own in one memory alone. -/
def ownD : Nat → Mem → Mem → List Nat
  | n, x :: a, y :: b => match x, y with
    | some (_, .lst _ _ o _ _), some (_, .lst _ _ o' _ _) => bif o != o' then n :: ownD (n + 1) a b else ownD (n + 1) a b
    | _, _ => ownD (n + 1) a b
  | _, _, _ => []
def ownDiff (m1 m2 : Mem) : List Nat := ownD 0 m1 m2
/-! ### names that are there -/
mutual
def SV.okB (m : Mem) : SV → Bool
  | .ptr n _ | .pi n _ _ _ | .sl n _ _ _ | .ls n _ | .sv n _ _ _ _ | .pe n _ _ _ | .mp n | .oq n => (m.at n).isSome
  | .fn _ cs | .agg cs | .tup cs => SV.okLB m cs
  | .gd _ v => SV.okB m v
  | .ite _ a b => SV.okB m a && SV.okB m b
  | _ => true
def SV.okLB (m : Mem) : List SV → Bool
  | [] => true
  | v :: r => SV.okB m v && SV.okLB m r
end
mutual
theorem SV.okB_spec {m : Mem} : ∀ v : SV, SV.okB m v = true → v.ok (al m)
  | .ptr n _, h | .pi n _ _ _, h | .sl n _ _ _, h | .ls n _, h | .sv n _ _ _ _, h | .pe n _ _ _, h | .mp n, h | .oq n, h => by simp only [SV.okB] at h; exact h
  | .fn _ cs, h | .agg cs, h | .tup cs, h => by simp only [SV.okB] at h; simp only [SV.ok]; exact SV.okLB_spec cs h
  | .gd _ v, h => by simp only [SV.okB] at h; simp only [SV.ok]; exact SV.okB_spec v h
  | .ite _ a b, h => by simp only [SV.okB, Bool.and_eq_true] at h; simp only [SV.ok]; exact ⟨SV.okB_spec a h.1, SV.okB_spec b h.2⟩
  | .sc _, _ | .und, _ | .nilp _, _ | .gl _ _, _ => by simp [SV.ok]
theorem SV.okLB_spec {m : Mem} : ∀ l : List SV, SV.okLB m l = true → SV.okL (al m) l
  | [], _ => trivial
  | v :: r, h => by simp only [SV.okLB, Bool.and_eq_true] at h; exact ⟨SV.okB_spec v h.1, SV.okLB_spec r h.2⟩
end
def okMem (m : Mem) : Bool := m.all fun
  | some (_, b) => SV.okLB m b.cs
  | _ => true
theorem okMem_spec {m : Mem} (h : okMem m = true) {k : Nat} {g : E} {b : Blk} (hk : m.at k = some (g, b)) : SV.okL (al m) b.cs := by
  unfold okMem at h
  have hlt := Mem.at_lt hk
  have hm : some (g, b) ∈ m := by
    unfold Mem.at at hk
    simp only [List.getD, List.getElem?_eq_getElem hlt, Option.getD_some] at hk
    rw [← hk]
    exact List.getElem_mem hlt
  exact SV.okLB_spec b.cs (List.all_eq_true.1 h _ hm)

/-! ### merging of states -/
def mergeSlot (c : E) : Option SV → Option SV → Option SV
  | some x, some y => some (merge c x y)
  | _, _ => none
def okTm (m : Mem) (tm : Tm) : Bool := tm.all fun
  | some v => SV.okB m v
  | none => true
def mergeSt (c : E) (s1 s2 : St) : Option St :=
  let ns := ownDiff s1.2 s2.2
  let m1 := shareL s1.2 ns
  let m2 := shareL s2.2 ns
  if c.kind = .b ∧ s1.1.length = s2.1.length ∧ okMem m1 = true ∧ okMem m2 = true ∧ okTm s1.2 s1.1 = true ∧ okTm s2.2 s2.1 = true then some (List.zipWith (mergeSlot c) s1.1 s2.1, mergeM c m1 m2) else none

section
variable {P : Program} {F : Fam} {ρ : Nat → Int} {G : Glob} {w0 w : World} {M0 Im0 Im : Nat → Prop} {ad : Nat → Hd} {m : Mem} {tm : Tm} {en : Env} {a : Act}

theorem okTm_spec {m : Mem} {tm : Tm} (h : okTm m tm = true) {i : Nat} {v : SV} (hv : tm.at i = some v) : v.ok (al m) := by
  unfold okTm at h
  have hm : some v ∈ tm := by
    unfold Tm.at at hv
    simp only [List.getD] at hv
    cases hi : tm[i]? with
    | none => rw [hi] at hv; cases hv
    | some x => rw [hi] at hv; simp only [Option.getD_some] at hv; rw [← hv]; exact List.mem_of_getElem? hi
  exact SV.okB_spec v (List.all_eq_true.1 h _ hm)

theorem mergeSt_spec {c : E} {s1 s2 s : St} (h : mergeSt c s1 s2 = some s) :
    (∀ k, al s1.2 k ∨ al s2.2 k → al s.2 k) ∧ (∀ ad a w, c.tt F ρ = true → RelS F ρ w0 M0 Im0 ad s1 a w → RelS F ρ w0 M0 Im0 ad s a w) ∧ (∀ ad a w, c.tt F ρ = false → RelS F ρ w0 M0 Im0 ad s2 a w → RelS F ρ w0 M0 Im0 ad s a w) := by
  unfold mergeSt at h
  simp only at h
  split at h
  · rename_i hc
    obtain ⟨hk, hl, ok1, ok2, t1, t2⟩ := hc
    simp only [Option.some.injEq] at h
    subst h
    have hPM := mergeM_PM c (shareL s1.2 (ownDiff s1.2 s2.2)) (shareL s2.2 (ownDiff s1.2 s2.2))
    have hal : ∀ k, al s1.2 k ∨ al s2.2 k → al (mergeM c (shareL s1.2 (ownDiff s1.2 s2.2)) (shareL s2.2 (ownDiff s1.2 s2.2))) k := fun k hk => by
      rw [hPM.al, shareL_al, shareL_al]; exact hk
    have hsl : ∀ i v, Tm.at (List.zipWith (mergeSlot c) s1.1 s2.1) i = some v → ∃ x y, s1.1.at i = some x ∧ s2.1.at i = some y ∧ v = merge c x y := by
      intro i v hv
      unfold Tm.at at hv
      simp only [List.getD, List.getElem?_zipWith] at hv
      cases h1 : s1.1[i]? with
      | none => simp [h1] at hv
      | some x =>
        cases h2 : s2.1[i]? with
        | none => simp [h1, h2] at hv
        | some y =>
          simp only [h1, h2, Option.getD_some] at hv
          unfold mergeSlot at hv
          split at hv
          · rename_i x y
            simp only [Option.some.injEq] at hv
            exact ⟨x, y, by simp [Tm.at, List.getD, h1], by simp [Tm.at, List.getD, h2], hv.symm⟩
          · cases hv
    have hvok : ∀ i x y, s1.1.at i = some x → s2.1.at i = some y → (merge c x y).ok (al (mergeM c (shareL s1.2 (ownDiff s1.2 s2.2)) (shareL s2.2 (ownDiff s1.2 s2.2)))) := fun i x y h1 h2 =>
      merge_ok x y (SV.ok_mono (fun k hk => hal k (Or.inl hk)) x (okTm_spec t1 h1)) (SV.ok_mono (fun k hk => hal k (Or.inr hk)) y (okTm_spec t2 h2))
    refine ⟨hal, fun ad a w ht hR => ?_, fun ad a w ht hR => ?_⟩
    · obtain ⟨hT, hM⟩ := hR
      refine ⟨⟨hT.defers, by simp [hT.size, hl], fun i v hv => ?_⟩, ?_⟩
      · obtain ⟨x, y, h1, h2, rfl⟩ := hsl i v hv
        exact ⟨by rw [merge_conc hk, ht]; exact (hT.slot i x h1).1, hvok i x y h1 h2⟩
      · exact hPM.rel hk ht (Rel.shareL _ hM) fun n g x hn => okMem_spec ok2 hn
    · obtain ⟨hT, hM⟩ := hR
      refine ⟨⟨hT.defers, by simp [hT.size, hl], fun i v hv => ?_⟩, ?_⟩
      · obtain ⟨x, y, h1, h2, rfl⟩ := hsl i v hv
        exact ⟨by rw [merge_conc hk, ht]; exact (hT.slot i y h2).1, hvok i x y h1 h2⟩
      · exact hPM.rel hk ht (Rel.shareL _ hM) fun n g x hn => okMem_spec ok1 hn
  · cases h
end

inductive Lab where
  | nrm
  | ret
  | ex (id : Nat)
  deriving DecidableEq, Repr, Inhabited
def Lab.exit : Lab → Exit
  | .nrm => .normal
  | .ret => .ret
  | .ex id => .exit id

/-- Which way is taken. -/
inductive DT where
  | leaf (l : Lab)
  | br (c : E) (a b : DT)
  | join (a b : DT)
  | rel (id : Nat) (a : DT)
  deriving Repr, Inhabited

def DT.eval (F : Fam) (ρ : Nat → Int) : DT → Lab
  | .leaf l => l
  | .br c a b => bif c.tt F ρ then a.eval F ρ else b.eval F ρ
  | .join a b => if a.eval F ρ = .nrm then b.eval F ρ else a.eval F ρ
  | .rel id a => if a.eval F ρ = .ex id then .nrm else a.eval F ρ

def DT.is (l : Lab) : DT → E
  | .leaf l' => mkB (decide (l' = l))
  | .br c a b => if c.kind = .b then mkIte c (a.is l) (b.is l) else .ite c (a.is l) (b.is l)
  | .join a b => if l = .nrm then mkAnd (a.is .nrm) (b.is .nrm) else mkOr (a.is l) (mkAnd (a.is .nrm) (b.is l))
  | .rel id a => if l = .nrm then mkOr (a.is .nrm) (a.is (.ex id)) else if l = .ex id then mkB false else a.is l

theorem DT.is_spec (F : Fam) (ρ : Nat → Int) : ∀ (d : DT) (l : Lab), (d.is l).kind = .b ∧ ((d.is l).tt F ρ = true ↔ d.eval F ρ = l)
  | .leaf l', l => ⟨rfl, by simp only [DT.is, mkB_tt, DT.eval, decide_eq_true_eq]⟩
  | .br c a b, l => by
    obtain ⟨a1, a2⟩ := DT.is_spec F ρ a l
    obtain ⟨b1, b2⟩ := DT.is_spec F ρ b l
    simp only [DT.is, DT.eval]
    split
    · rename_i hc
      obtain ⟨i1, i2⟩ := mkIte_spec c (a.is l) (b.is l) hc (by rw [a1, b1]) F ρ
      rw [a1] at i2
      refine ⟨i2, ?_⟩
      rw [E.val_b i2, E.val_b a1, E.val_b b1] at i1
      rcases Bool.eq_false_or_eq_true (c.tt F ρ) with hct | hct
      · rw [hct] at i1 ⊢; simp only [cond_true, Value.bool.injEq] at i1 ⊢; rw [i1]; exact a2
      · rw [hct] at i1 ⊢; simp only [cond_false, Value.bool.injEq] at i1 ⊢; rw [i1]; exact b2
    · refine ⟨a1, ?_⟩
      have : (E.ite c (a.is l) (b.is l)).tt F ρ = bif c.tt F ρ then (a.is l).tt F ρ else (b.is l).tt F ρ := by
        simp only [E.tt, E.den]
        cases i2b (E.den F ρ c) <;> rfl
      rw [this]
      rcases Bool.eq_false_or_eq_true (c.tt F ρ) with hct | hct
      · rw [hct]; exact a2
      · rw [hct]; exact b2
  | .join a b, l => by
    obtain ⟨n1, n2⟩ := DT.is_spec F ρ a .nrm
    obtain ⟨a1, a2⟩ := DT.is_spec F ρ a l
    obtain ⟨b1, b2⟩ := DT.is_spec F ρ b l
    obtain ⟨m1, m2⟩ := DT.is_spec F ρ b .nrm
    simp only [DT.is, DT.eval]
    by_cases hl : l = .nrm
    · rw [if_pos hl]
      subst hl
      have := mkAnd_spec (a.is .nrm) (b.is .nrm) n1 m1 F ρ
      refine ⟨this.2, ?_⟩
      rw [this.1, Bool.and_eq_true, n2, m2]
      by_cases h : a.eval F ρ = .nrm
      · rw [if_pos h]; exact ⟨fun x => x.2, fun x => ⟨h, x⟩⟩
      · rw [if_neg h]; exact ⟨fun x => x.1, fun x => (h x).elim⟩
    · rw [if_neg hl]
      have h1 := mkAnd_spec (a.is .nrm) (b.is l) n1 b1 F ρ
      have h2 := mkOr_spec (a.is l) _ a1 h1.2 F ρ
      refine ⟨h2.2, ?_⟩
      rw [h2.1, h1.1, Bool.or_eq_true, Bool.and_eq_true, a2, n2, b2]
      by_cases h : a.eval F ρ = .nrm
      · rw [if_pos h]
        exact ⟨fun x => x.elim (fun y => (hl (y.symm.trans h)).elim) (fun y => y.2), fun x => Or.inr ⟨h, x⟩⟩
      · rw [if_neg h]; exact ⟨fun x => x.elim id (fun y => (h y.1).elim), Or.inl⟩
  | .rel id a, l => by
    obtain ⟨n1, n2⟩ := DT.is_spec F ρ a .nrm
    obtain ⟨a1, a2⟩ := DT.is_spec F ρ a l
    obtain ⟨e1, e2⟩ := DT.is_spec F ρ a (.ex id)
    simp only [DT.is, DT.eval]
    by_cases hl : l = .nrm
    · rw [if_pos hl]
      subst hl
      have := mkOr_spec (a.is .nrm) (a.is (.ex id)) n1 e1 F ρ
      refine ⟨this.2, ?_⟩
      rw [this.1, Bool.or_eq_true, n2, e2]
      by_cases h : a.eval F ρ = .ex id
      · rw [if_pos h]; exact ⟨fun _ => rfl, fun _ => Or.inr h⟩
      · rw [if_neg h]; exact ⟨fun x => x.elim (fun z => z) (fun y => (h y).elim), Or.inl⟩
    · rw [if_neg hl]
      by_cases hl2 : l = .ex id
      · rw [if_pos hl2]
        subst hl2
        refine ⟨rfl, ?_⟩
        simp only [mkB_tt]
        by_cases h : a.eval F ρ = .ex id
        · rw [if_pos h]; exact ⟨fun x => (Bool.false_ne_true x).elim, fun x => (hl x.symm).elim⟩
        · rw [if_neg h]; exact ⟨fun x => (Bool.false_ne_true x).elim, fun x => (h x).elim⟩
      · rw [if_neg hl2]
        refine ⟨a1, ?_⟩
        rw [a2]
        by_cases h : a.eval F ρ = .ex id
        · rw [if_pos h]; exact ⟨fun x => (hl2 (x.symm.trans h)).elim, fun x => (hl x.symm).elim⟩
        · rw [if_neg h]

theorem DT.is_true {F : Fam} {ρ : Nat → Int} {d : DT} {l : Lab} (h : d.eval F ρ = l) : (d.is l).tt F ρ = true := (DT.is_spec F ρ d l).2.2 h
theorem DT.is_false {F : Fam} {ρ : Nat → Int} {d : DT} {l : Lab} (h : d.eval F ρ ≠ l) : (d.is l).tt F ρ = false := Bool.eq_false_iff.2 fun x => h ((DT.is_spec F ρ d l).2.1 x)

def mkJoin (a b : DT) : DT :=
  match a with
  | .leaf .nrm => b
  | .leaf l => .leaf l
  | a => .join a b
theorem mkJoin_eval (F : Fam) (ρ : Nat → Int) (a b : DT) : (mkJoin a b).eval F ρ = if a.eval F ρ = .nrm then b.eval F ρ else a.eval F ρ := by
  unfold mkJoin
  split
  · simp [DT.eval]
  · rename_i l hl
    have : l ≠ .nrm := fun e => hl (by rw [e])
    simp [DT.eval, this]
  · rfl
def mkRel (id : Nat) (a : DT) : DT :=
  match a with
  | .leaf l => .leaf (if l = .ex id then .nrm else l)
  | a => .rel id a
theorem mkRel_eval (F : Fam) (ρ : Nat → Int) (id : Nat) (a : DT) : (mkRel id a).eval F ρ = if a.eval F ρ = .ex id then .nrm else a.eval F ρ := by
  unfold mkRel
  split <;> rfl

section
variable {P : Program} {F : Fam} {ρ : Nat → Int} {G : Glob} {w0 w : World} {M0 Im0 Im : Nat → Prop} {ad : Nat → Hd} {m : Mem} {tm : Tm} {en : Env} {a : Act}

/-! ### states by the way out -/
def lk (l : Lab) : List (Lab × St) → Option St
  | [] => none
  | (l', s) :: r => if l' = l then some s else lk l r
def drop (l : Lab) : List (Lab × St) → List (Lab × St)
  | [] => []
  | (k, s) :: r => if k = l then drop l r else (k, s) :: drop l r
theorem lk_drop_other {l l' : Lab} (h : l ≠ l') : ∀ xs, lk l' (drop l xs) = lk l' xs
  | [] => rfl
  | (k, s) :: r => by
    have ih := lk_drop_other h r
    simp only [drop]
    by_cases hk : k = l
    · subst hk
      rw [if_pos rfl, ih]
      simp only [lk, if_neg h]
    · rw [if_neg hk]
      simp only [lk, ih]
theorem lk_drop_same (l : Lab) : ∀ xs, lk l (drop l xs) = none
  | [] => rfl
  | (k, s) :: r => by
    have ih := lk_drop_same l r
    simp only [drop]
    by_cases hk : k = l
    · rw [if_pos hk]; exact ih
    · rw [if_neg hk]; simp only [lk, if_neg hk]; exact ih

def mergeSts (c : Lab → E) : List (Lab × St) → List (Lab × St) → Option (List (Lab × St))
  | [], ys => some ys
  | (l, s) :: r, ys => match lk l ys with
    | some s' => match mergeSt (c l) s s', mergeSts c r (drop l ys) with
      | some q, some t => some ((l, q) :: t)
      | _, _ => none
    | none => (mergeSts c r ys).map ((l, s) :: ·)

theorem mergeSts_spec {c : Lab → E} : ∀ {xs ys zs : List (Lab × St)}, mergeSts c xs ys = some zs → ∀ l,
    (∀ s, lk l xs = some s → ∃ q, lk l zs = some q ∧ ((lk l ys = none ∧ q = s) ∨ ∃ s', lk l ys = some s' ∧ mergeSt (c l) s s' = some q)) ∧
    (lk l xs = none → lk l zs = lk l ys)
  | [], ys, zs, h, l => by
    simp only [mergeSts, Option.some.injEq] at h; subst h
    exact ⟨fun s hs => by simp [lk] at hs, fun _ => rfl⟩
  | (l0, s0) :: r, ys, zs, h, l => by
    simp only [mergeSts] at h
    split at h
    · rename_i s' hs'
      split at h
      · rename_i q t hq ht
        simp only [Option.some.injEq] at h; subst h
        by_cases hl : l0 = l
        · subst hl
          refine ⟨fun s hs => ?_, fun hn => by simp [lk] at hn⟩
          simp only [lk, if_true, Option.some.injEq] at hs
          subst hs
          exact ⟨q, by simp [lk], Or.inr ⟨s', hs', hq⟩⟩
        · obtain ⟨i1, i2⟩ := mergeSts_spec ht l
          rw [lk_drop_other hl] at i1 i2
          simp only [lk, if_neg hl]
          exact ⟨i1, i2⟩
      · cases h
    · rename_i hs'
      obtain ⟨t, ht, rfl⟩ := Option.map_eq_some_iff.1 h
      obtain ⟨i1, i2⟩ := mergeSts_spec ht l
      by_cases hl : l0 = l
      · subst hl
        refine ⟨fun s hs => ?_, fun hn => by simp [lk] at hn⟩
        simp only [lk, if_true, Option.some.injEq] at hs
        subst hs
        exact ⟨s0, by simp [lk], Or.inl ⟨hs', rfl⟩⟩
      · simp only [lk, if_neg hl]
        exact ⟨i1, i2⟩

abbrev Out := DT × List (Lab × St)

def joinOut (ox oy : Out) : Option Out :=
  (mergeSts (fun l => ox.1.is l) (drop .nrm ox.2) oy.2).map fun z => (mkJoin ox.1 oy.1, z)
def brOut (c : E) (ox oy : Out) : Option Out :=
  if c.kind = .b then (mergeSts (fun _ => c) ox.2 oy.2).map fun z => (.br c ox.1 oy.1, z) else none
def relOut (id : Nat) (o : Out) : Option Out :=
  match lk (.ex id) o.2, lk .nrm o.2 with
  | none, _ => some (mkRel id o.1, o.2)
  | some s, none => some (mkRel id o.1, (.nrm, s) :: drop (.ex id) o.2)
  | some s, some s' => match mergeSt (o.1.is (.ex id)) s s' with
    | some q => some (mkRel id o.1, (.nrm, q) :: drop (.ex id) (drop .nrm o.2))
    | none => none

/-- What is asked behind a piece of code whose outcome is o. -/
def After (F : Fam) (ρ : Nat → Int) (w0 : World) (M0 Im0 : Nat → Prop) (ad : Nat → Hd) (m : Mem) (o : Out) (Q : Exit → Act → World → Prop) : Prop :=
  ∀ q ad' a' w', lk (o.1.eval F ρ) o.2 = some q → RelS F ρ w0 M0 Im0 ad' q a' w' → Ext ad ad' m q.2 → Q (o.1.eval F ρ).exit a' w'

theorem After.join {m0 : Mem} {ox oy o : Out} (h : joinOut ox oy = some o) {Q : Exit → Act → World → Prop} (hA : After F ρ w0 M0 Im0 ad m0 o Q) :
    (ox.1.eval F ρ ≠ .nrm → After F ρ w0 M0 Im0 ad m0 ox Q) ∧ (ox.1.eval F ρ = .nrm → After F ρ w0 M0 Im0 ad m0 oy Q) := by
  obtain ⟨z, hz, rfl⟩ := Option.map_eq_some_iff.1 h
  unfold After at *
  simp only [mkJoin_eval] at hA
  constructor
  · intro hne q ad' a' w' hq hR hx
    simp only [if_neg hne] at hA
    obtain ⟨i1, _⟩ := mergeSts_spec hz (ox.1.eval F ρ)
    obtain ⟨q', h1, h2⟩ := i1 q (by rw [lk_drop_other (Ne.symm hne)]; exact hq)
    rcases h2 with ⟨_, rfl⟩ | ⟨s', _, h3⟩
    · exact hA q' ad' a' w' h1 hR hx
    · obtain ⟨k1, k2, _⟩ := mergeSt_spec (F := F) (ρ := ρ) (w0 := w0) (M0 := M0) (Im0 := Im0) h3
      exact hA q' ad' a' w' h1 (k2 ad' a' w' (DT.is_true rfl) hR) ⟨hx.same, fun k hk => k1 k (Or.inl (hx.keep k hk))⟩
  · intro he q ad' a' w' hq hR hx
    simp only [if_pos he] at hA
    obtain ⟨i1, i2⟩ := mergeSts_spec hz (oy.1.eval F ρ)
    cases hlx : lk (oy.1.eval F ρ) (drop .nrm ox.2) with
    | none => exact hA q ad' a' w' (by rw [i2 hlx]; exact hq) hR hx
    | some s =>
      obtain ⟨q', h1, h2⟩ := i1 s hlx
      rcases h2 with ⟨h2, _⟩ | ⟨s', h2, h3⟩
      · rw [h2] at hq; cases hq
      · rw [h2] at hq
        simp only [Option.some.injEq] at hq
        subst hq
        obtain ⟨k1, _, k3⟩ := mergeSt_spec (F := F) (ρ := ρ) (w0 := w0) (M0 := M0) (Im0 := Im0) h3
        refine hA q' ad' a' w' h1 (k3 ad' a' w' (DT.is_false ?_) hR) ⟨hx.same, fun k hk => k1 k (Or.inr (hx.keep k hk))⟩
        rw [he]
        exact fun e => by rw [← e, lk_drop_same] at hlx; cases hlx

theorem After.br {m0 : Mem} {c : E} {ox oy o : Out} (h : brOut c ox oy = some o) {Q : Exit → Act → World → Prop} (hA : After F ρ w0 M0 Im0 ad m0 o Q) :
    (c.tt F ρ = true → After F ρ w0 M0 Im0 ad m0 ox Q) ∧ (c.tt F ρ = false → After F ρ w0 M0 Im0 ad m0 oy Q) := by
  unfold brOut at h
  split at h
  · obtain ⟨z, hz, rfl⟩ := Option.map_eq_some_iff.1 h
    unfold After at *
    simp only [DT.eval] at hA
    constructor
    · intro ht q ad' a' w' hq hR hx
      simp only [ht, cond_true] at hA
      obtain ⟨i1, _⟩ := mergeSts_spec hz (ox.1.eval F ρ)
      obtain ⟨q', h1, h2⟩ := i1 q hq
      rcases h2 with ⟨_, rfl⟩ | ⟨s', _, h3⟩
      · exact hA q' ad' a' w' h1 hR hx
      · obtain ⟨k1, k2, _⟩ := mergeSt_spec (F := F) (ρ := ρ) (w0 := w0) (M0 := M0) (Im0 := Im0) h3
        exact hA q' ad' a' w' h1 (k2 ad' a' w' ht hR) ⟨hx.same, fun k hk => k1 k (Or.inl (hx.keep k hk))⟩
    · intro ht q ad' a' w' hq hR hx
      simp only [ht, cond_false] at hA
      obtain ⟨i1, i2⟩ := mergeSts_spec hz (oy.1.eval F ρ)
      cases hlx : lk (oy.1.eval F ρ) ox.2 with
      | none => exact hA q ad' a' w' (by rw [i2 hlx]; exact hq) hR hx
      | some s =>
        obtain ⟨q', h1, h2⟩ := i1 s hlx
        rcases h2 with ⟨h2, _⟩ | ⟨s', h2, h3⟩
        · rw [h2] at hq; cases hq
        · rw [h2] at hq
          simp only [Option.some.injEq] at hq
          subst hq
          obtain ⟨k1, _, k3⟩ := mergeSt_spec (F := F) (ρ := ρ) (w0 := w0) (M0 := M0) (Im0 := Im0) h3
          exact hA q' ad' a' w' h1 (k3 ad' a' w' ht hR) ⟨hx.same, fun k hk => k1 k (Or.inr (hx.keep k hk))⟩
  · cases h

theorem inBlock_ne {id : Nat} {l : Lab} (h : l ≠ .ex id) {Q : Exit → Act → World → Prop} {a : Act} {w : World} (hq : Q l.exit a w) : Exit.inBlock id Q l.exit a w := by
  cases l with
  | nrm => exact hq
  | ret => exact hq
  | ex k =>
    have : k ≠ id := fun e => h (by rw [e])
    simp only [Lab.exit, Exit.inBlock, if_neg this]
    exact hq

theorem After.rel {m0 : Mem} {id : Nat} {o' o : Out} (h : relOut id o' = some o) {Q : Exit → Act → World → Prop} (hA : After F ρ w0 M0 Im0 ad m0 o Q) : After F ρ w0 M0 Im0 ad m0 o' (Exit.inBlock id Q) := by
  unfold relOut at h
  intro q ad' a' w' hq hR hx
  unfold After at hA
  split at h
  · rename_i h1
    simp only [Option.some.injEq] at h; subst h
    simp only [mkRel_eval] at hA
    have hne : o'.1.eval F ρ ≠ .ex id := fun e => by rw [e, h1] at hq; cases hq
    simp only [if_neg hne] at hA
    exact inBlock_ne hne (hA q ad' a' w' hq hR hx)
  · rename_i s h1 h2
    simp only [Option.some.injEq] at h; subst h
    simp only [mkRel_eval] at hA
    by_cases he : o'.1.eval F ρ = .ex id
    · simp only [if_pos he] at hA
      rw [he] at hq ⊢
      rw [h1] at hq
      simp only [Option.some.injEq] at hq
      subst hq
      simp only [Lab.exit, Exit.inBlock, if_true]
      exact hA s ad' a' w' (by simp [lk]) hR hx
    · simp only [if_neg he] at hA
      have hnn : o'.1.eval F ρ ≠ .nrm := fun e => by rw [e, h2] at hq; cases hq
      refine inBlock_ne he (hA q ad' a' w' ?_ hR hx)
      simp only [lk, if_neg (Ne.symm hnn)]
      rw [lk_drop_other (Ne.symm he)]
      exact hq
  · rename_i s s' h1 h2
    split at h
    · rename_i q0 h3
      simp only [Option.some.injEq] at h; subst h
      simp only [mkRel_eval] at hA
      obtain ⟨k1, k2, k3⟩ := mergeSt_spec (F := F) (ρ := ρ) (w0 := w0) (M0 := M0) (Im0 := Im0) h3
      by_cases he : o'.1.eval F ρ = .ex id
      · simp only [if_pos he] at hA
        rw [he] at hq ⊢
        rw [h1] at hq
        simp only [Option.some.injEq] at hq
        subst hq
        simp only [Lab.exit, Exit.inBlock, if_true]
        exact hA q0 ad' a' w' (by simp [lk]) (k2 ad' a' w' (DT.is_true he) hR) ⟨hx.same, fun k hk => k1 k (Or.inl (hx.keep k hk))⟩
      · simp only [if_neg he] at hA
        by_cases hn : o'.1.eval F ρ = .nrm
        · rw [hn] at hq hA ⊢
          rw [h2] at hq
          simp only [Option.some.injEq] at hq
          subst hq
          exact hA q0 ad' a' w' (by simp [lk]) (k3 ad' a' w' (DT.is_false (by rw [hn]; exact fun e => by cases e)) hR) ⟨hx.same, fun k hk => k1 k (Or.inr (hx.keep k hk))⟩
        · refine inBlock_ne he (hA q ad' a' w' ?_ hR hx)
          simp only [lk, if_neg (Ne.symm hn)]
          rw [lk_drop_other (Ne.symm he), lk_drop_other (Ne.symm hn)]
          exact hq
    · cases h
end
end Go.Proofs.Ytmolkkphnehgcaa.Ew
