/- The memory of named things: blocks of cells, lists, maps; how it stands to the world; how it stays so behind a step. -/
import Derived.Test.YtmolkkphnehgcaaWE
set_option linter.unusedVariables false
set_option linter.unusedSimpArgs false
namespace Go.Proofs.Ytmolkkphnehgcaa.Ew
open Go Go.RowKit

/-- What a name stands for: a block of cells; a list (its length, its rows), shared or of the call's own; a map; nothing any more. -/
inductive Blk where
  | cells (ty : Nat) (cs : List SV)
  | lst (ty : Nat) (row : Row) (own : Bool) (le c : E)
  | mp (ks vs : List K) (kag vag : Bool) (c : E)
  | seg (ty : Nat) (cs : List SV) (ks : List K) (c : E)
  | dead
  deriving Repr, Inhabited
def Blk.cs : Blk → List SV
  | .cells _ cs => cs
  | .seg _ cs _ _ => cs
  | _ => []
/-- By name: under which condition it is there, and what it is. -/
abbrev Mem := List (Option (E × Blk))
def Mem.at (m : Mem) (n : Nat) : Option (E × Blk) := m.getD n none
def al (m : Mem) (n : Nat) : Prop := (m.at n).isSome = true
/-- What the variables that were there before hold. -/
abbrev Glob := Nat → Nat → Option SV

theorem Mem.at_lt {m : Mem} {n : Nat} {x} (h : m.at n = some x) : n < m.length := by
  unfold Mem.at at h
  rcases Nat.lt_or_ge n m.length with h' | h'
  · exact h'
  · simp [List.getD, List.getElem?_eq_none h'] at h
theorem Mem.at_set_same {m : Mem} {n : Nat} (h : n < m.length) (x : Option (E × Blk)) : Mem.at (List.set m n x) n = x := by
  simp [Mem.at, List.getD, h]
theorem Mem.at_set_other {m : Mem} {n k : Nat} (h : n ≠ k) (x : Option (E × Blk)) : Mem.at (List.set m n x) k = m.at k := by
  simp [Mem.at, List.getD, List.getElem?_set, h]

/-- A value of some numbers: one cell, or an aggregate. -/
def numV (ks : List K) (zs : List Int) : List Value := List.zipWith K.val ks zs
/-- Rows of numbers, cell by cell. -/
def flatN (ks : List K) (l : RL) : List Value := (l.map (numV ks)).flatten
def keyV (ks : List K) (ag : Bool) (zs : List Int) : Value := bif ag then .agg (numV ks zs).toArray else (numV ks zs).getD 0 undef
/-- The entries of a map, told by rows: the numbers of the key and of the value. -/
def EntV (ks vs : List K) (kag vag : Bool) (e : MapEntry) (r : List Int) : Prop := fits (ks ++ vs) r ∧ e.key = keyV ks kag (r.take ks.length) ∧ e.val = keyV vs vag (r.drop ks.length)
def MapZ (ks vs : List K) (kag vag : Bool) : List MapEntry → RL → Prop
  | [], [] => True
  | e :: es, r :: l => EntV ks vs kag vag e r ∧ MapZ ks vs kag vag es l
  | _, _ => False
/-- No key twice, in order. -/
def SortedR (n : Nat) (l : RL) : Prop := l.Pairwise fun a b => ltR (a.take n) (b.take n) = true
def MapV (ks vs : List K) (kag vag : Bool) (es : Array MapEntry) (l : RL) : Prop := SortedR ks.length l ∧ ∃ l' : RL, l'.Perm l ∧ MapZ ks vs kag vag es.toList l'

/-- The block that may be written by way of a name. -/
def mutB (F : Fam) (ρ : Nat → Int) (ad : Nat → Hd) (n : Nat) : Blk → Option Nat
  | .cells _ _ => some (ad n).blk
  | .lst _ _ true le _ => ((ad n).sl (le.den F ρ).toNat).ownBlock
  | .lst _ _ false _ _ => none
  | .mp .. => some (ad n).blk
  | .seg .. => some (ad n).blk
  | .dead => none
def BlkOK (F : Fam) (ρ : Nat → Int) (Im : Nat → Prop) (ad : Nat → Hd) (n : Nat) (w : World) : Blk → Prop
  | .cells ty cs => w.heap[(ad n).blk]? = some (.cells (SV.concL F ρ ad cs).toArray ty (0, 0))
  | .lst ty row own le c => isCd (c.den F ρ) ∧ le.den F ρ = ((dc (c.den F ρ)).length : Int) ∧
      (bif own then OwL w Im ty row (ad n) (dc (c.den F ρ)) else ShL w Im row (ad n) (dc (c.den F ρ)))
  | .mp ks vs kag vag c => isCd (c.den F ρ) ∧ ∃ es ck, w.heap[(ad n).blk]? = some (.map es ck) ∧ MapV ks vs kag vag es (dc (c.den F ρ))
  | .seg ty cs ks c => isCd (c.den F ρ) ∧ (∀ r ∈ dc (c.den F ρ), fits ks r) ∧ w.heap[(ad n).blk]? = some (.cells (SV.concL F ρ ad cs ++ flatN ks (dc (c.den F ρ))).toArray ty (0, 0))
  | .dead => True

structure RelI (F : Fam) (ρ : Nat → Int) (w0 : World) (M0 Im : Nat → Prop) (ad : Nat → Hd) (m : Mem) (w : World) : Prop where
  ent : ∀ n g x, m.at n = some (g, x) → g.tt F ρ = true → BlkOK F ρ Im ad n w x ∧ ∀ b, mutB F ρ ad n x = some b → (M0 b ∨ w0.heap.size ≤ b) ∧ ¬ Im b ∧ b < w.heap.size
  ok : ∀ n g x, m.at n = some (g, x) → SV.okL (al m) x.cs
  inj : ∀ n k g x g' y b, m.at n = some (g, x) → g.tt F ρ = true → m.at k = some (g', y) → g'.tt F ρ = true → mutB F ρ ad n x = some b → mutB F ρ ad k y = some b → n = k
  im : ∀ b, Im b → b < w.heap.size
  fr : Fr M0 w0 w
/-- The memory tells of the world w. w0: the world in which all began; M0: the blocks of then that may be written; Im0: those that may not. -/
def Rel (F : Fam) (ρ : Nat → Int) (w0 : World) (M0 Im0 : Nat → Prop) (ad : Nat → Hd) (m : Mem) (w : World) : Prop :=
  (∀ b, M0 b → ¬ Im0 b ∧ b < w0.heap.size) ∧ ∃ Im : Nat → Prop, (∀ b, Im0 b → Im b) ∧ (∀ b, Im b → Im0 b ∨ M0 b ∨ w0.heap.size ≤ b) ∧ RelI F ρ w0 M0 Im ad m w

def GOK (G : Glob) (Im0 : Nat → Prop) (w0 : World) : Prop :=
  ∀ (F : Fam) (ρ : Nat → Int) b off v, G b off = some v → Im0 b ∧ b < w0.heap.size ∧ w0.cell? ⟨b, off, none⟩ = some (v.conc F ρ (fun _ => default)) ∧ v.ok (fun _ => False)

/-- From one state of names to a later one. -/
structure Ext (ad ad' : Nat → Hd) (m m' : Mem) : Prop where
  same : ∀ k, al m k → ad k = ad' k
  keep : ∀ k, al m k → al m' k
theorem Ext.refl (ad : Nat → Hd) (m : Mem) : Ext ad ad m m := ⟨fun _ _ => rfl, fun _ h => h⟩
theorem Ext.trans {ad ad' ad'' : Nat → Hd} {m m' m'' : Mem} (h : Ext ad ad' m m') (h' : Ext ad' ad'' m' m'') : Ext ad ad'' m m'' :=
  ⟨fun k hk => (h.same k hk).trans (h'.same k (h.keep k hk)), fun k hk => h'.keep k (h.keep k hk)⟩

section
variable {P : Program} {F : Fam} {ρ : Nat → Int} {G : Glob} {w0 w w' : World} {M0 Im0 Im Im' T : Nat → Prop} {ad ad' : Nat → Hd} {m m' : Mem}

theorem Mem.at_al {n : Nat} {x} (h : m.at n = some x) : al m n := by simp [al, h]

theorem GOK.fr (h : GOK G Im0 w0) (hM : ∀ b, M0 b → ¬ Im0 b ∧ b < w0.heap.size) (hf : Fr M0 w0 w) {Im1 : Nat → Prop} (hI : ∀ b, Im0 b → Im1 b) : GOK G Im1 w := fun F ρ b off v hv => by
  obtain ⟨h0, h1, h2, h3⟩ := h F ρ b off v hv
  exact ⟨hI b h0, Nat.lt_of_lt_of_le h1 hf.size, (hf.cell h1 fun x => (hM b x).1 h0).trans h2, h3⟩

theorem cell_of_heap {b : Nat} {c : Array Value} {t : TypeId} {fr : Nat × Nat} (h : w.heap[b]? = some (.cells c t fr)) (o : Nat) : w.cell? ⟨b, o, none⟩ = c[o]? := by
  simp [World.cell?, h]

theorem mutB_congr {n : Nat} {x : Blk} (h : ad' n = ad n) : mutB F ρ ad' n x = mutB F ρ ad n x := by
  cases x with
  | lst ty row own le c => cases own <;> simp [mutB, h]
  | _ => simp [mutB, h]

/-- What a name stands for stays so where what it reads has not turned. -/
theorem BlkOK.fr {n : Nat} {x : Blk} (h : BlkOK F ρ Im ad n w x) (hI : ∀ b, Im b → Im' b ∧ w'.heap[b]? = w.heap[b]?) (hb : ∀ b, mutB F ρ ad n x = some b → w'.heap[b]? = w.heap[b]?)
    (hn : ad' n = ad n) (hc : SV.concL F ρ ad' x.cs = SV.concL F ρ ad x.cs) : BlkOK F ρ Im' ad' n w' x := by
  cases x with
  | cells ty cs =>
    simp only [BlkOK] at h ⊢
    have hc' : SV.concL F ρ ad' cs = SV.concL F ρ ad cs := hc
    rw [hn, hb _ rfl, hc']
    exact h
  | lst ty row own le c =>
    obtain ⟨h1, h2, h3⟩ := h
    refine ⟨h1, h2, ?_⟩
    cases own with
    | true =>
      simp only [cond_true] at h3 ⊢
      rw [hn]
      refine h3.fr hI fun b hb' => hb b ?_
      simp only [mutB, h2]
      exact hb'
    | false =>
      simp only [cond_false] at h3 ⊢
      rw [hn]
      exact h3.fr hI
  | mp ks vs kag vag c =>
    obtain ⟨h1, es, ck, h2, h3⟩ := h
    exact ⟨h1, es, ck, by rw [hn, hb _ rfl]; exact h2, h3⟩
  | seg ty cs ks c =>
    obtain ⟨h1, h2, h3⟩ := h
    have hc' : SV.concL F ρ ad' cs = SV.concL F ρ ad cs := hc
    exact ⟨h1, h2, by rw [hn, hb _ rfl, hc']; exact h3⟩
  | dead => trivial

/-- A step: some blocks are written (T), new ones are made; each name stands for what it stood for, and was not touched, or for something that is told anew. -/
theorem RelI.step (hR : RelI F ρ w0 M0 Im ad m w) (hf : Fr T w w') (hT : ∀ b, b < w.heap.size → T b → (M0 b ∨ w0.heap.size ≤ b) ∧ ¬ Im b)
    (hI : ∀ b, Im b → Im' b) (hIw : ∀ b, Im' b → b < w'.heap.size) (hx : ∀ k, al m k → ad k = ad' k) (hk : ∀ k, al m k → al m' k)
    (hE : ∀ n g x, m'.at n = some (g, x) → g.tt F ρ = true →
      ((∃ g', m.at n = some (g', x) ∧ g'.tt F ρ = true) ∧ ∀ b, mutB F ρ ad n x = some b → ¬ T b ∧ ¬ Im' b) ∨
      (BlkOK F ρ Im' ad' n w' x ∧ ∀ b, mutB F ρ ad' n x = some b → ((M0 b ∨ w0.heap.size ≤ b) ∧ ¬ Im' b ∧ b < w'.heap.size) ∧ (T b ∨ w.heap.size ≤ b)))
    (hok : ∀ n g x, m'.at n = some (g, x) → SV.okL (al m') x.cs)
    (hN : ∀ n k g x g' y b, m'.at n = some (g, x) → g.tt F ρ = true → m'.at k = some (g', y) → g'.tt F ρ = true → mutB F ρ ad' n x = some b → mutB F ρ ad' k y = some b → (T b ∨ w.heap.size ≤ b) → n = k) :
    RelI F ρ w0 M0 Im' ad' m' w' := by
  have hIm : ∀ b, Im b → Im' b ∧ w'.heap[b]? = w.heap[b]? := fun b hb => ⟨hI b hb, hf.block b (hR.im b hb) fun t => (hT b (hR.im b hb) t).2 hb⟩
  refine ⟨fun n g x hn hg => ?_, hok, fun n k g x g' y b h1 h2 h3 h4 h5 h6 => ?_, hIw, hR.fr.trans hf fun b hb t => ?_⟩
  · rcases hE n g x hn hg with ⟨⟨g', h1, h2⟩, h3⟩ | ⟨h1, h2⟩
    · obtain ⟨i1, i2⟩ := hR.ent n g' x h1 h2
      have hadn := (hx n (Mem.at_al h1)).symm
      refine ⟨i1.fr hIm (fun b hb => hf.block b (i2 b hb).2.2 (h3 b hb).1) hadn ?_, fun b hb => ?_⟩
      · exact (SV.concL_congr hx x.cs (hR.ok n g' x h1)).symm
      · rw [mutB_congr hadn] at hb
        exact ⟨(i2 b hb).1, (h3 b hb).2, Nat.lt_of_lt_of_le (i2 b hb).2.2 hf.size⟩
    · exact ⟨h1, fun b hb => (h2 b hb).1⟩
  · by_cases ht : T b ∨ w.heap.size ≤ b
    · exact hN n k g x g' y b h1 h2 h3 h4 h5 h6 ht
    · rcases hE n g x h1 h2 with ⟨⟨g1, e1, e2⟩, e3⟩ | ⟨_, e2⟩
      · rcases hE k g' y h3 h4 with ⟨⟨g2, f1, f2⟩, f3⟩ | ⟨_, f2⟩
        · rw [mutB_congr (hx n (Mem.at_al e1)).symm] at h5
          rw [mutB_congr (hx k (Mem.at_al f1)).symm] at h6
          exact hR.inj n k g1 x g2 y b e1 e2 f1 f2 h5 h6
        · exact (ht (f2 b h6).2).elim
      · exact (ht (e2 b h5).2).elim
  · by_cases hb' : b < w.heap.size
    · rcases (hT b hb' t).1 with h | h
      · exact h
      · omega
    · have := hR.fr.size; omega

theorem RelI.refl_w (hR : RelI F ρ w0 M0 Im ad m w) {w1 : World} (h : w1.heap = w.heap) (hf : Fr M0 w0 w1) : RelI F ρ w0 M0 Im ad m w1 := by
  refine ⟨fun n g x hn hg => ?_, hR.ok, hR.inj, fun b hb => by rw [h]; exact hR.im b hb, hf⟩
  obtain ⟨i1, i2⟩ := hR.ent n g x hn hg
  exact ⟨i1.fr (fun b hb => ⟨hb, by rw [h]⟩) (fun b _ => by rw [h]) rfl rfl, fun b hb => by rw [h]; exact i2 b hb⟩

/-- A list of the call's own may be taken for a shared one. -/
def shareN (m : Mem) (n : Nat) : Mem :=
  match m.at n with
  | some (g, .lst ty row true le c) => m.set n (some (g, .lst ty row false le c))
  | _ => m
theorem al_set {m : Mem} {n : Nat} {x y} (h : m.at n = some x) (k : Nat) : al (m.set n (some y)) k ↔ al m k := by
  have hl := Mem.at_lt h
  by_cases hk : n = k
  · subst hk; simp [al, Mem.at_set_same hl, h]
  · simp [al, Mem.at_set_other hk]
theorem al_set_new {m : Mem} {n : Nat} {y} (h : n < m.length) (k : Nat) : al m k → al (m.set n (some y)) k := by
  intro hk
  by_cases he : n = k
  · subst he; simp [al, Mem.at_set_same h]
  · simpa [al, Mem.at_set_other he] using hk

theorem Rel.share (hR : Rel F ρ w0 M0 Im0 ad m w) (n : Nat) : Rel F ρ w0 M0 Im0 ad (shareN m n) w := by
  unfold shareN
  split
  · rename_i g ty row le c hn
    obtain ⟨hM, Im, h1, h2, hI⟩ := hR
    have hl := Mem.at_lt hn
    by_cases hg : g.tt F ρ = true
    · obtain ⟨i1, i2⟩ := hI.ent n g _ hn hg
      obtain ⟨j1, j2, j3⟩ := i1
      simp only [cond_true] at j3
      have hlen : (le.den F ρ).toNat = (dc (c.den F ρ)).length := by rw [j2]; simp
      refine ⟨hM, fun b => Im b ∨ ((ad n).sl (dc (c.den F ρ)).length).ownBlock = some b, fun b hb => Or.inl (h1 b hb), fun b hb => ?_, ?_⟩
      · rcases hb with hb | hb
        · exact h2 b hb
        · have := i2 b (by simp only [mutB, hlen]; exact hb)
          exact Or.inr this.1
      · refine hI.step (T := fun _ => False) (Fr.refl _ _) (fun b _ hb => hb.elim) (fun b hb => Or.inl hb) (fun b hb => ?_) (fun _ _ => rfl) (fun k hk => (al_set hn k).2 hk) (fun k g' x hk hg' => ?_) (fun k g' x hk => ?_) (fun k k' g1 x g2 y b a1 a2 a3 a4 a5 a6 a7 => ?_)
        · rcases hb with hb | hb
          · exact hI.im b hb
          · exact (i2 b (by simp only [mutB, hlen]; exact hb)).2.2
        · by_cases hkn : n = k
          · subst hkn
            rw [Mem.at_set_same hl] at hk
            simp only [Option.some.injEq, Prod.mk.injEq] at hk
            obtain ⟨rfl, rfl⟩ := hk
            right
            exact ⟨⟨j1, j2, j3.share⟩, fun b hb => by simp [mutB] at hb⟩
          · rw [Mem.at_set_other hkn] at hk
            left
            refine ⟨⟨g', hk, hg'⟩, fun b hb => ⟨fun x => x, fun hb' => ?_⟩⟩
            rcases hb' with hb' | hb'
            · exact ((hI.ent k g' x hk hg').2 b hb).2.1 hb'
            · exact hkn (hI.inj n k g _ g' x b hn hg hk hg' (by simp only [mutB, hlen]; exact hb') hb)
        · by_cases hkn : n = k
          · subst hkn
            rw [Mem.at_set_same hl] at hk
            simp only [Option.some.injEq, Prod.mk.injEq] at hk
            obtain ⟨_, rfl⟩ := hk
            trivial
          · rw [Mem.at_set_other hkn] at hk
            exact SV.okL_mono (fun k hk => (al_set hn k).2 hk) _ (hI.ok k g' x hk)
        · rcases a7 with a7 | a7
          · exact a7.elim
          · exfalso
            by_cases hkn : n = k
            · subst hkn
              rw [Mem.at_set_same hl] at a1
              simp only [Option.some.injEq, Prod.mk.injEq] at a1
              obtain ⟨rfl, rfl⟩ := a1
              simp [mutB] at a5
            · rw [Mem.at_set_other hkn] at a1
              have := ((hI.ent k g1 x a1 a2).2 b a5).2.2
              omega
    · refine ⟨hM, Im, h1, h2, hI.step (T := fun _ => False) (Fr.refl _ _) (fun b _ hb => hb.elim) (fun b hb => hb) hI.im (fun _ _ => rfl) (fun k hk => (al_set hn k).2 hk) (fun k g' x hk hg' => ?_) (fun k g' x hk => ?_) (fun k k' g1 x g2 y b a1 a2 a3 a4 a5 a6 a7 => ?_)⟩
      · by_cases hkn : n = k
        · subst hkn
          rw [Mem.at_set_same hl] at hk
          simp only [Option.some.injEq, Prod.mk.injEq] at hk
          obtain ⟨rfl, rfl⟩ := hk
          exact (hg hg').elim
        · rw [Mem.at_set_other hkn] at hk
          exact Or.inl ⟨⟨g', hk, hg'⟩, fun b hb => ⟨fun x => x, ((hI.ent k g' x hk hg').2 b hb).2.1⟩⟩
      · by_cases hkn : n = k
        · subst hkn
          rw [Mem.at_set_same hl] at hk
          simp only [Option.some.injEq, Prod.mk.injEq] at hk
          obtain ⟨_, rfl⟩ := hk
          trivial
        · rw [Mem.at_set_other hkn] at hk
          exact SV.okL_mono (fun k hk => (al_set hn k).2 hk) _ (hI.ok k g' x hk)
      · rcases a7 with a7 | a7
        · exact a7.elim
        · exfalso
          by_cases hkn : n = k
          · subst hkn
            rw [Mem.at_set_same hl] at a1
            simp only [Option.some.injEq, Prod.mk.injEq] at a1
            obtain ⟨rfl, rfl⟩ := a1
            exact hg a2
          · rw [Mem.at_set_other hkn] at a1
            have := ((hI.ent k g1 x a1 a2).2 b a5).2.2
            omega
  · exact hR
theorem shareN_al (m : Mem) (n k : Nat) : al (shareN m n) k ↔ al m k := by
  unfold shareN
  split
  · rename_i hn; exact al_set hn k
  · rfl
def shareL (m : Mem) : List Nat → Mem
  | [] => m
  | n :: r => shareL (shareN m n) r
theorem Rel.shareL : ∀ (ns : List Nat) {m : Mem}, Rel F ρ w0 M0 Im0 ad m w → Rel F ρ w0 M0 Im0 ad (Ew.shareL m ns) w
  | [], _, hR => hR
  | n :: r, _, hR => Rel.shareL r (hR.share n)
theorem shareL_al : ∀ (ns : List Nat) (m : Mem) (k : Nat), al (shareL m ns) k ↔ al m k
  | [], m, k => Iff.rfl
  | n :: r, m, k => (shareL_al r (shareN m n) k).trans (shareN_al m n k)
end
end Go.Proofs.Ytmolkkphnehgcaa.Ew
