/- Summaries of functions: shapes of what they take and give, and what is computed; how a call is taken by its summary. -/
import Derived.Test.YtbolcnlenmphhaaDoorWR
set_option linter.unusedVariables false
set_option linter.unusedSimpArgs false
namespace Go.Proofs.YtbolcnlenmphhaaDoor.Ew
open Go Go.RowKit

structure Ent where
  key : Nat
  f : Nat
  ps : List Sh
  os : List (Nat × Nat × List Sh)
  kp : List Nat
  rs : Sh
  fn : Nat → List Int → Int
  pre : List Int → Prop
abbrev Tabs := List Ent

def env (xs : List Int) : Nat → Int := fun i => xs.getD i 0
def varE (ks : List K) : Nat → E := fun i => match ks[i]? with | some k => .var k i | none => mkB false
def Ent.pks (e : Ent) : List K := Sh.ksL e.ps
def Ent.outL (e : Ent) : List Sh := e.os.flatMap (fun o => o.2.2) ++ [e.rs]
def Ent.oks (e : Ent) : List K := Sh.ksL e.outL
def Ent.np (e : Ent) : Nat := e.pks.length
def Ent.nn (e : Ent) : Nat := Sh.nnL e.ps
def Ent.pgen (e : Ent) : List SV × Ents := Sh.genL (varE e.pks) id e.ps (mkB true) 0 0
def Ent.ogen (e : Ent) : List SV × Ents := Sh.genL (varE (e.pks ++ e.oks)) id e.outL (mkB true) e.np e.nn
/-- The objects' new cells among what is given. -/
def objE : List (Nat × Nat × List Sh) → List SV → Ents
  | [], _ => []
  | (j, ty, cs) :: r, vs => (j, mkB true, .cells ty (vs.take cs.length)) :: objE r (vs.drop cs.length)
def keptE (kp : List Nat) (l : Ents) : Ents := l.filter fun x => kp.contains x.1
def lastV (l : List SV) : SV := l.getLastD .und
def Ent.oents (e : Ent) : Ents := objE e.os e.ogen.1 ++ (keptE e.kp e.pgen.2 ++ e.ogen.2)
def outsE (fn : Nat → List Int → Int) (xs : List Int) : Nat → List K → List Int
  | _, [] => []
  | j, k :: ks => k.norm (fn j xs) :: outsE fn xs (j + 1) ks

/-- What is told of named things holds in the world w. -/
structure RelE (F : Fam) (ρ : Nat → Int) (w0 : World) (M0 Im : Nat → Prop) (hs : Nat → Hd) (l : Ents) (w : World) : Prop where
  ent : ∀ x ∈ l, x.2.1.tt F ρ = true → BlkOK F ρ Im hs x.1 w x.2.2 ∧ ∀ b, mutB F ρ hs x.1 x.2.2 = some b → (M0 b ∨ w0.heap.size ≤ b) ∧ ¬ Im b ∧ b < w.heap.size
  inj : ∀ x ∈ l, ∀ y ∈ l, x.2.1.tt F ρ = true → y.2.1.tt F ρ = true → ∀ b, mutB F ρ hs x.1 x.2.2 = some b → mutB F ρ hs y.1 y.2.2 = some b → x.1 = y.1
  im : ∀ b, Im b → b < w.heap.size
  fr : Fr M0 w0 w

/-- What a summary says. -/
def EntryOK (P : Program) (G : Glob) (e : Ent) : Prop :=
  ∀ xs, fits e.pks xs → e.pre xs → ∀ (w : World) (M0 Im0 : Nat → Prop) (hs : Nat → Hd), (∀ b, M0 b → ¬ Im0 b ∧ b < w.heap.size) → GOK G Im0 w → RelE F0 (env xs) w M0 Im0 hs e.pgen.2 w →
    Calls P e.f (SV.concL F0 (env xs) hs e.pgen.1).toArray w fun en w' => ∃ (hs' : Nat → Hd) (Im' : Nat → Prop), (∀ j, j < e.nn → hs' j = hs j) ∧ (∀ b, Im0 b → Im' b) ∧ (∀ b, Im' b → Im0 b ∨ M0 b ∨ w.heap.size ≤ b) ∧
      en = .returned ((lastV e.ogen.1).conc F0 (env (xs ++ outsE e.fn xs 0 e.oks)) hs') ∧ RelE F0 (env (xs ++ outsE e.fn xs 0 e.oks)) w M0 Im' hs' e.oents w'

def Tabs.get (l : Tabs) (k : Nat) : Option Ent := l.find? fun e => e.key == k
def preC : Nat := 1000000
open Classical in
noncomputable def Tabs.F (l : Tabs) : Fam := fun k j xs => if k = 0 then bi j xs else match l.get k with
  | some e => if j = preC then (if e.pre xs then 1 else 0) else e.fn j xs
  | none => 0
theorem Tabs.BI (l : Tabs) : BI l.F := fun j xs => by simp [Tabs.F]

/-! ### a call that is taken by a summary -/
def appsE (key : Nat) (es : List E) : Nat → List K → List E
  | _, [] => []
  | j, k :: ks => .app k key j es :: appsE key es (j + 1) ks
def nvC (srcs : List Src) (N nm k : Nat) : Nat → Nat := fun j => if j < N then (match srcs[j]? with | some (.nm n) => n | _ => 1000000000 + j) else if j - N < k then nm + (j - N) else 1000000000 + j
def evC (es os : List E) : Nat → E := fun i => if i < es.length then es.getD i (mkB false) else os.getD (i - es.length) (mkB false)
/-- Which of the names may be written by way of a shape. -/
def mutJ (l : Ents) : List Nat := l.filterMap fun x => match x.2.2 with
  | .cells .. => some x.1
  | .lst _ _ true _ _ => some x.1
  | .mp .. => some x.1
  | _ => none
def nodupB : List Nat → Bool
  | [] => true
  | n :: r => !r.contains n && nodupB r
def setEs (m : Mem) : List (Nat × E × Blk) → Mem
  | [] => m
  | (n, g, b) :: r => setEs (m.set n (some (g, b))) r
/-- The memory's own entries of the objects that get new cells. -/
def objSet (srcs : List Src) (m : Mem) : List (Nat × Nat × List Sh) → List SV → Option (List (Nat × E × Blk))
  | [], _ => some []
  | (j, ty, cs) :: r, vs => match srcs[j]? with
    | some (.nm n) => match m.at n with
      | some (g, .cells ty' _) => if ty' = ty then (objSet srcs m r (vs.drop cs.length)).map fun l => (n, g, .cells ty (vs.take cs.length)) :: l else none
      | _ => none
    | _ => none
def keptOK (srcs : List Src) (kp : List Nat) : Bool := kp.all fun j => match srcs[j]? with
  | some (.nm _) => true
  | some (.vw _ _ (.ls _ _) _) => true
  | _ => false
def isRef (srcs : List Src) (j : Nat) : Bool :=
  match srcs[j]? with
  | some (.nm _) => true
  | _ => false
def freeB (m : Mem) (nm k : Nat) : Bool := (List.range k).all fun i => decide (nm + i < m.length) && (m.at (nm + i)).isNone

/-- A call by one summary: the condition, the value, the memory behind it. -/
def callE (e : Ent) (m : Mem) (nm : Nat) (args : List SV) : Option (E × SV × Mem) :=
  match Sh.getL m e.ps [] args with
  | some (es, srcs, g) =>
    let os := appsE e.key es 0 e.oks
    let gen := Sh.genL (evC es os) (nvC srcs e.nn nm (Sh.nnL e.outL)) e.outL (mkB true) e.np e.nn
    let mj := mutJ e.pgen.2
    let dead := (mj.filter fun j => !e.kp.contains j && !(e.os.any fun o => o.1 == j)).flatMap (srcOf srcs)
    match objSet srcs m e.os gen.1 with
    | some sets => if nodupB (mj.flatMap (srcOf srcs)) = true ∧ keptOK srcs e.kp = true ∧ freeB m nm (Sh.nnL e.outL) = true ∧ m.length < 1000000000 ∧ nodupB (e.os.map (·.1)) = true ∧
        (e.os.all fun o => mj.contains o.1 && !e.kp.contains o.1) = true ∧
        e.key ≠ 0 ∧ e.oks.length < preC ∧ ((Sh.refsL e.outL).all fun j => isRef srcs j && decide (j < e.nn)) = true ∧ ((Sh.refsL e.ps).all fun j => decide (j < e.nn)) = true then
        some (mkAnd g (.app .b e.key preC es), lastV gen.1, setEs (setEs (killL m dead) sets) (gen.2.map fun x => (nvC srcs e.nn nm (Sh.nnL e.outL) x.1, x.2.1, x.2.2)))
      else none
    | none => none
  | none => none
end Go.Proofs.YtbolcnlenmphhaaDoor.Ew

/- That a call may be taken by its summary. -/
set_option linter.unusedVariables false
set_option linter.unusedSimpArgs false
namespace Go.Proofs.YtbolcnlenmphhaaDoor.Ew
open Go Go.RowKit

section
variable {P : Program} {F : Fam} {ρ ρ' : Nat → Int} {G : Glob} {w0 w w' : World} {M0 Im0 Im Im' T : Nat → Prop} {ad ad' hs hs' : Nat → Hd} {m m' : Mem}

theorem varE_kind (ks : List K) (i : Nat) (k : K) (h : ks[i]? = some k) : (varE ks i).kind = k := by simp [varE, h, E.kind]
theorem varE_den {ks : List K} {xs : List Int} (hf : fits ks xs) (i : Nat) : (varE ks i).den F (env xs) = if i < ks.length then xs.getD i 0 else 0 := by
  unfold varE
  by_cases hi : i < ks.length
  · simp only [List.getElem?_eq_getElem hi, hi, if_true, E.den, env]
    exact fits_get hf i _ (List.getElem?_eq_getElem hi)
  · rw [List.getElem?_eq_none (by omega), if_neg hi]
    simp [b2i]
theorem outsE_fits (fn : Nat → List Int → Int) (xs : List Int) : ∀ (ks : List K) (j : Nat), fits ks (outsE fn xs j ks)
  | [], _ => trivial
  | k :: ks, j => ⟨K.norm_norm k _, outsE_fits fn xs ks (j + 1)⟩
theorem appsE_len (key : Nat) (es : List E) : ∀ (ks : List K) (j : Nat), (appsE key es j ks).length = ks.length
  | [], _ => rfl
  | k :: ks, j => by simp [appsE, appsE_len key es ks (j + 1)]
theorem appsE_kind (key : Nat) (es : List E) : ∀ (ks : List K) (j : Nat), (appsE key es j ks).map E.kind = ks
  | [], _ => rfl
  | k :: ks, j => by simp [appsE, E.kind, appsE_kind key es ks (j + 1)]
theorem Tabs.F_fn {l : Tabs} {e : Ent} (he : l.get e.key = some e) (hk : e.key ≠ 0) {j : Nat} (hj : j ≠ preC) (xs : List Int) : l.F e.key j xs = e.fn j xs := by
  simp [Tabs.F, hk, he, hj]
open Classical in
theorem Tabs.F_pre {l : Tabs} {e : Ent} (he : l.get e.key = some e) (hk : e.key ≠ 0) {xs : List Int} (h : (E.app .b e.key preC []).kind = .b) : (i2b (K.b.norm (l.F e.key preC xs)) = true ↔ e.pre xs) := by
  have : l.F e.key preC xs = if e.pre xs then 1 else 0 := by simp [Tabs.F, hk, he]
  rw [this]
  by_cases hp : e.pre xs
  · simp [hp, K.norm, i2b]
  · simp [hp, K.norm, i2b]
theorem appsE_den {l : Tabs} {e : Ent} (he : l.get e.key = some e) (hk : e.key ≠ 0) (es : List E) : ∀ (ks : List K) (j : Nat), j + ks.length ≤ preC → (appsE e.key es j ks).map (E.den l.F ρ) = outsE e.fn (es.map (E.den l.F ρ)) j ks
  | [], _, _ => rfl
  | k :: ks, j, h => by
    simp only [appsE, List.map_cons, outsE, E.den, denL_eq, Tabs.F_fn he hk (show j ≠ preC by simp only [List.length_cons] at h; omega)]
    rw [appsE_den he hk es ks (j + 1) (by simp only [List.length_cons] at h; omega)]

theorem fits_of {es : List E} {ks : List K} (hk : es.map E.kind = ks) (hs : ∀ e ∈ es, e.kind ≠ .x → e.sound = true) : fits ks (es.map (E.den F ρ)) := by
  subst hk
  induction es with
  | nil => trivial
  | cons e es ih =>
    refine ⟨?_, ih fun x hx => hs x (List.mem_cons_of_mem _ hx)⟩
    by_cases hx : e.kind = .x
    · rw [hx]; rfl
    · exact E.den_norm F ρ e (hs e (List.mem_cons_self ..) hx)

theorem getD_app (a b : List Int) (i : Nat) : (a ++ b).getD i 0 = if i < a.length then a.getD i 0 else b.getD (i - a.length) 0 := by
  simp only [List.getD]
  by_cases h : i < a.length
  · rw [if_pos h, List.getElem?_append_left h]
  · rw [if_neg h, List.getElem?_append_right (by omega)]

/-- The generic parameters read the same among the parameters alone and among parameters and results. -/
theorem Tr.params (B : Nat) {ks : List K} {xs ys : List Int} (hx : fits ks xs) (hh : ∀ j, j < B → hs' j = hs j) : Tr B F0 F0 (env xs) (env (xs ++ ys)) hs hs' (varE ks) (varE ks) id id := by
  refine ⟨BI_F0, BI_F0, fun i => ?_, fun i => rfl, fun j hj => (hh j hj).symm⟩
  have hl := fits_length hx
  unfold varE
  cases hk : ks[i]? with
  | none => simp
  | some k =>
    have hi := (List.getElem?_eq_some_iff.1 hk).1
    simp only [E.den, env, getD_app, hl, hi, if_true]

theorem mem_setEs : ∀ {l : List (Nat × E × Blk)} {m : Mem} {k : Nat} {g : E} {x : Blk}, (setEs m l).at k = some (g, x) → (k, g, x) ∈ l ∨ ((∀ y ∈ l, y.1 ≠ k) ∧ m.at k = some (g, x)) ∨ ((∃ y ∈ l, y.1 = k ∧ m.length ≤ k))
  | [], m, k, g, x, h => Or.inr (Or.inl ⟨by simp, h⟩)
  | (n, g', b) :: r, m, k, g, x, h => by
    simp only [setEs] at h
    rcases mem_setEs (l := r) h with h1 | ⟨h1, h2⟩ | ⟨y, h1, h2, h3⟩
    · exact Or.inl (List.mem_cons_of_mem _ h1)
    · by_cases hk : n = k
      · subst hk
        by_cases hl : n < m.length
        · rw [Mem.at_set_same hl] at h2
          simp only [Option.some.injEq, Prod.mk.injEq] at h2
          obtain ⟨rfl, rfl⟩ := h2
          exact Or.inl (List.mem_cons_self ..)
        · exact Or.inr (Or.inr ⟨_, List.mem_cons_self .., rfl, by omega⟩)
      · rw [Mem.at_set_other hk] at h2
        refine Or.inr (Or.inl ⟨fun y hy => ?_, h2⟩)
        rcases List.mem_cons.1 hy with rfl | hy
        · exact hk
        · exact h1 y hy
    · exact Or.inr (Or.inr ⟨y, List.mem_cons_of_mem _ h1, h2, by simpa using h3⟩)
theorem setEs_len : ∀ (l : List (Nat × E × Blk)) (m : Mem), (setEs m l).length = m.length
  | [], _ => rfl
  | (n, g, b) :: r, m => by simp only [setEs, setEs_len r, List.length_set]
theorem setEs_al : ∀ {l : List (Nat × E × Blk)} {m : Mem} {k : Nat}, al m k → al (setEs m l) k
  | [], m, k, h => h
  | (n, g, b) :: r, m, k, h => by
    refine setEs_al (l := r) ?_
    by_cases hl : n < m.length
    · exact al_set_new hl k h
    · rw [List.set_eq_of_length_le (by omega)]; exact h
theorem setEs_new : ∀ {l : List (Nat × E × Blk)} {m : Mem} {y : Nat × E × Blk}, y ∈ l → y.1 < m.length → al (setEs m l) y.1
  | [], m, y, h, _ => by cases h
  | (n, g, b) :: r, m, y, h, hl => by
    rcases List.mem_cons.1 h with rfl | h
    · refine setEs_al (l := r) ?_
      have hl' : n < m.length := hl
      show al (m.set n (some (g, b))) n
      simp [al, Mem.at_set_same hl']
    · exact setEs_new (l := r) h (by simpa using hl)

theorem nodup_flat {f : Nat → List Nat} : ∀ {l : List Nat}, nodupB (l.flatMap f) = true → ∀ a ∈ l, ∀ b ∈ l, ∀ n, n ∈ f a → n ∈ f b → a = b
  | [], _, a, ha, _, _, _, _, _ => by cases ha
  | c :: l, h, a, ha, b, hb, n, hna, hnb => by
    have key : ∀ (u v : List Nat), nodupB (u ++ v) = true → nodupB v = true ∧ ∀ n ∈ u, n ∉ v := by
      intro u
      induction u with
      | nil => intro v h; exact ⟨h, fun n hn => by cases hn⟩
      | cons x u ih =>
        intro v h
        simp only [List.cons_append, nodupB, Bool.and_eq_true, Bool.not_eq_true'] at h
        obtain ⟨i1, i2⟩ := ih v h.2
        refine ⟨i1, fun n hn => ?_⟩
        rcases List.mem_cons.1 hn with rfl | hn
        · have := h.1
          simp only [List.contains_eq_mem, decide_eq_false_iff_not, List.mem_append, not_or] at this
          exact this.2
        · exact i2 n hn
    rw [List.flatMap_cons] at h
    obtain ⟨h1, h2⟩ := key _ _ h
    rcases List.mem_cons.1 ha with ha' | ha' <;> rcases List.mem_cons.1 hb with hb' | hb'
    · rw [ha', hb']
    · rw [ha'] at hna; exact (h2 n hna (List.mem_flatMap.2 ⟨b, hb', hnb⟩)).elim
    · rw [hb'] at hnb; exact (h2 n hnb (List.mem_flatMap.2 ⟨a, ha', hna⟩)).elim
    · exact nodup_flat h1 a ha' b hb' n hna hnb

theorem mutJ_mem {l : Ents} {x : Nat × E × Blk} (hx : x ∈ l) {b : Nat} (h : mutB F ρ ad x.1 x.2.2 = some b) : x.1 ∈ mutJ l := by
  unfold mutJ
  refine List.mem_filterMap.2 ⟨x, hx, ?_⟩
  revert h
  cases x.2.2 with
  | cells ty cs => intro _; rfl
  | lst ty row own le c =>
    cases own with
    | true => intro _; rfl
    | false => intro h; simp [mutB] at h
  | mp => intro _; rfl
  | dead => intro h; simp [mutB] at h

theorem freeB_spec {nm k : Nat} (h : freeB m nm k = true) {i : Nat} (hi : i < k) : nm + i < m.length ∧ (m.at (nm + i)).isNone = true := by
  unfold freeB at h
  have := List.all_eq_true.1 h i (List.mem_range.2 hi)
  simpa using this

theorem objSet_spec {srcs : List Src} : ∀ {os : List (Nat × Nat × List Sh)} {vs : List SV} {l : List (Nat × E × Blk)}, objSet srcs m os vs = some l →
    ∀ y ∈ l, ∃ j ty vs' cs0, srcs[j]? = some (.nm y.1) ∧ j ∈ os.map (·.1) ∧ y.2.2 = .cells ty vs' ∧ (j, mkB true, Blk.cells ty vs') ∈ objE os vs ∧ m.at y.1 = some (y.2.1, .cells ty cs0)
  | [], vs, l, h, y, hy => by simp [objSet] at h; subst h; cases hy
  | (j, ty, cs) :: r, vs, l, h, y, hy => by
    simp only [objSet] at h
    split at h
    · rename_i n hn
      split at h
      · rename_i g ty' cs0 hm
        split at h
        · rename_i hty
          subst hty
          obtain ⟨l', hl, rfl⟩ := Option.map_eq_some_iff.1 h
          rcases List.mem_cons.1 hy with rfl | hy
          · exact ⟨j, ty', _, cs0, hn, by simp, rfl, by simp [objE], hm⟩
          · obtain ⟨j', ty', vs', cs0', a1, a2, a3, a4, a5⟩ := objSet_spec hl y hy
            exact ⟨j', ty', vs', cs0', a1, by simp at a2 ⊢; exact Or.inr a2, a3, by simp only [objE]; exact List.mem_cons_of_mem _ a4, a5⟩
        · cases h
      · cases h
    · cases h
theorem objSet_has {srcs : List Src} : ∀ {os : List (Nat × Nat × List Sh)} {vs : List SV} {l : List (Nat × E × Blk)}, objSet srcs m os vs = some l → ∀ j ∈ os.map (·.1), ∃ n, srcs[j]? = some (.nm n) ∧ ∃ y ∈ l, y.1 = n
  | [], vs, l, h, j, hj => by simp at hj
  | (j0, ty, cs) :: r, vs, l, h, j, hj => by
    simp only [objSet] at h
    split at h
    · rename_i n hn
      split at h
      · rename_i g ty' cs0 hm
        split at h
        · obtain ⟨l', hl, rfl⟩ := Option.map_eq_some_iff.1 h
          simp only [List.map_cons, List.mem_cons] at hj
          rcases hj with rfl | hj
          · exact ⟨n, hn, _, List.mem_cons_self .., rfl⟩
          · obtain ⟨n', a1, y, a2, a3⟩ := objSet_has hl j hj
            exact ⟨n', a1, y, List.mem_cons_of_mem _ a2, a3⟩
        · cases h
      · cases h
    · cases h
/-- The new cells of objects, at two readings. -/
theorem objE_same {F1 F2 : Fam} {ρ1 ρ2 : Nat → Int} {ad1 ad2 : Nat → Hd} : ∀ {os : List (Nat × Nat × List Sh)} {vs us : List SV}, SV.concL F1 ρ1 ad1 vs = SV.concL F2 ρ2 ad2 us → ∀ j ty vs', (j, mkB true, Blk.cells ty vs') ∈ objE os vs →
    ∃ us', (j, mkB true, Blk.cells ty us') ∈ objE os us ∧ SV.concL F1 ρ1 ad1 vs' = SV.concL F2 ρ2 ad2 us'
  | [], vs, us, h, j, ty, vs', hm => by simp [objE] at hm
  | (j0, ty0, cs) :: r, vs, us, h, j, ty, vs', hm => by
    simp only [objE, List.mem_cons, Prod.mk.injEq, Blk.cells.injEq, true_and] at hm
    have ht : ∀ n, SV.concL F1 ρ1 ad1 (vs.take n) = SV.concL F2 ρ2 ad2 (us.take n) := fun n => by
      rw [concL_eq, concL_eq] at h ⊢; rw [List.map_take, List.map_take, h]
    have hd : ∀ n, SV.concL F1 ρ1 ad1 (vs.drop n) = SV.concL F2 ρ2 ad2 (us.drop n) := fun n => by
      rw [concL_eq, concL_eq] at h ⊢; rw [List.map_drop, List.map_drop, h]
    rcases hm with ⟨rfl, rfl, rfl⟩ | hm
    · exact ⟨us.take cs.length, by simp [objE], ht _⟩
    · obtain ⟨us', a1, a2⟩ := objE_same (hd cs.length) j ty vs' hm
      exact ⟨us', by simp only [objE]; exact List.mem_cons_of_mem _ a1, a2⟩
theorem objE_j {os : List (Nat × Nat × List Sh)} {vs : List SV} : ∀ x ∈ objE os vs, x.1 ∈ os.map (·.1) := by
  induction os generalizing vs with
  | nil => intro x hx; cases hx
  | cons o r ih =>
    obtain ⟨j, ty, cs⟩ := o
    intro x hx
    simp only [objE, List.mem_cons] at hx
    rcases hx with rfl | hx
    · simp
    · exact List.mem_cons_of_mem _ (ih x hx)
theorem objE_ok {p : Nat → Prop} {os : List (Nat × Nat × List Sh)} {vs : List SV} (h : SV.okL p vs) : ∀ j ty vs', (j, mkB true, Blk.cells ty vs') ∈ objE os vs → SV.okL p vs' := by
  induction os generalizing vs with
  | nil => intro j ty vs' hx; cases hx
  | cons o r ih =>
    obtain ⟨j0, ty0, cs⟩ := o
    intro j ty vs' hx
    simp only [objE, List.mem_cons, Prod.mk.injEq, Blk.cells.injEq, true_and] at hx
    rcases hx with ⟨_, _, rfl⟩ | hx
    · exact okL_take h _
    · exact ih (okL_drop h _) j ty vs' hx
theorem lastV_conc {F1 F2 : Fam} {ρ1 ρ2 : Nat → Int} {ad1 ad2 : Nat → Hd} {vs us : List SV} (h : SV.concL F1 ρ1 ad1 vs = SV.concL F2 ρ2 ad2 us) : (lastV vs).conc F1 ρ1 ad1 = (lastV us).conc F2 ρ2 ad2 := by
  rw [concL_eq, concL_eq] at h
  have hl : ∀ (F : Fam) (ρ : Nat → Int) (ad : Nat → Hd) (l : List SV), (lastV l).conc F ρ ad = (l.map (SV.conc F ρ ad)).getLastD undef := fun F ρ ad l => by
    unfold lastV
    cases l with
    | nil => rfl
    | cons a l => rw [List.getLastD_eq_getLast?, List.getLastD_eq_getLast?, List.getLast?_map]; cases hh : (a :: l).getLast? with
      | none => rfl
      | some x => rfl
  rw [hl, hl, h]
theorem lastV_ok {p : Nat → Prop} {vs : List SV} (h : SV.okL p vs) : (lastV vs).ok p := by
  unfold lastV
  rw [List.getLastD_eq_getLast?]
  cases hh : vs.getLast? with
  | none => trivial
  | some x => exact (okL_iff p vs).1 h x (List.mem_of_getLast? hh)
end
end Go.Proofs.YtbolcnlenmphhaaDoor.Ew

/- That a call may be taken by its summary. -/
set_option linter.unusedVariables false
set_option linter.unusedSimpArgs false
namespace Go.Proofs.YtbolcnlenmphhaaDoor.Ew
open Go Go.RowKit

section
variable {P : Program} {ρ ρ' : Nat → Int} {G : Glob} {w0 w w' : World} {M0 Im0 Im Im' T : Nat → Prop} {ad ad' hs hs' : Nat → Hd} {m m' : Mem}

theorem OwL.hd {w : World} {Im : Nat → Prop} {ty : Nat} {q : Row} {h h' : Hd} {l : RL} (ho : OwL w Im ty q h l) (e : h.sl l.length = h'.sl l.length) : OwL w Im ty q h' l := by
  obtain ⟨h1, xs, h2, h3⟩ := ho
  exact ⟨h1, xs, by rw [← e]; exact h2, h3⟩

mutual
theorem get_nm : ∀ (s : Sh) (acc : List Src) (v : SV) (r : List E × List Src × E), s.get m acc v = some r → ∀ n, Src.nm n ∈ r.2.1 → al m n
  | .sc k, acc, v, r, h, n, hn => by
    cases v <;> simp only [Sh.get, reduceCtorEq] at h
    split at h <;> simp only [Option.some.injEq, reduceCtorEq] at h
    subst h; cases hn
  | .lt k z, acc, v, r, h, n, hn => by
    cases v with
    | sc x =>
      cases x <;> simp only [Sh.get, reduceCtorEq] at h
      split at h <;> simp only [Option.some.injEq, reduceCtorEq] at h
      subst h; cases hn
    | _ => simp [Sh.get] at h
  | .agg L, acc, v, r, h, n, hn => by
    cases v <;> simp only [Sh.get, reduceCtorEq] at h
    exact getL_nm L acc _ r h n hn
  | .lst ty row own, acc, v, r, h, n, hn => by
    have h' : getLst m ty row own v = some r := by cases v <;> simpa only [Sh.get] using h
    unfold getLst at h'
    split at h'
    · split at h' <;> simp only [Option.some.injEq, reduceCtorEq] at h'
      subst h'
      simp at hn
    · cases h'
  | .obj ty cs, acc, v, r, h, n, hn => by
    cases v with
    | ptr k o =>
      cases o with
      | zero =>
        simp only [Sh.get] at h
        split at h
        · rename_i g' ty' vs hb
          split at h
          · obtain ⟨q, hq, rfl⟩ := Option.map_eq_some_iff.1 h
            simp only [List.mem_cons, Src.nm.injEq] at hn
            rcases hn with rfl | hn
            · exact Mem.at_al (blkC_spec hb).1
            · exact getL_nm cs _ vs q hq n hn
          · cases h
        · cases h
      | succ o => simp [Sh.get] at h
    | _ => simp [Sh.get] at h
  | .ref j, acc, v, r, h, n, hn => by
    cases v with
    | ptr k o =>
      cases o with
      | zero =>
        simp only [Sh.get] at h
        split at h <;> simp only [Option.some.injEq, reduceCtorEq] at h
        subst h; cases hn
      | succ o => simp [Sh.get] at h
    | _ => simp [Sh.get] at h
  | .fnc f L, acc, v, r, h, n, hn => by
    cases v <;> simp only [Sh.get, reduceCtorEq] at h
    split at h
    · exact getL_nm L acc _ r h n hn
    · cases h
  | .nul c, acc, v, r, h, n, hn => by
    cases v <;> simp only [Sh.get, reduceCtorEq] at h
    split at h <;> simp only [Option.some.injEq, reduceCtorEq] at h
    subst h; cases hn
  | .tup L, acc, v, r, h, n, hn => by
    cases v <;> simp only [Sh.get, reduceCtorEq] at h
    exact getL_nm L acc _ r h n hn
  | .opt s, acc, v, r, h, n, hn => by
    have h' : getOpt (mkB true :: s.ks.map fun k => E.lit k 0, List.replicate s.nn Src.dm, mkB true) v (fun u => s.get m acc u) = some r := by cases v <;> simpa only [Sh.get] using h
    unfold getOpt at h'
    split at h'
    · simp only [Option.some.injEq] at h'; subst h'
      simp only [List.mem_replicate] at hn
      cases hn.2
    · split at h'
      · obtain ⟨q, hq, rfl⟩ := Option.map_eq_some_iff.1 h'
        exact get_nm s acc _ q hq n hn
      · cases h'
    · cases h'
  | .und, acc, v, r, h, n, hn => by
    cases v <;> simp only [Sh.get, reduceCtorEq] at h
    simp only [Option.some.injEq] at h; subst h; cases hn
theorem getL_nm : ∀ (L : List Sh) (acc : List Src) (vs : List SV) (r : List E × List Src × E), Sh.getL m L acc vs = some r → ∀ n, Src.nm n ∈ r.2.1 → al m n
  | [], acc, [], r, h, n, hn => by simp only [Sh.getL, Option.some.injEq] at h; subst h; cases hn
  | [], acc, _ :: _, r, h, n, hn => by simp [Sh.getL] at h
  | _ :: _, acc, [], r, h, n, hn => by simp [Sh.getL] at h
  | s :: L, acc, v :: vs, r, h, n, hn => by
    simp only [Sh.getL] at h
    split at h
    · rename_i es' ns' g' hs0
      obtain ⟨q, hq, rfl⟩ := Option.map_eq_some_iff.1 h
      rcases List.mem_append.1 hn with hn | hn
      · exact get_nm s acc v _ hs0 n hn
      · exact getL_nm L _ vs q hq n hn
    · cases h
end
theorem SameL.self {F1 F2 : Fam} {ρ1 ρ2 : Nat → Int} {ad1 ad2 : Nat → Hd} {nv1 nv2 : Nat → Nat} : ∀ {a : Ents}, SameL F1 F2 ρ1 ρ2 ad1 ad2 nv1 nv2 a a → ∀ x ∈ a, SameE F1 F2 ρ1 ρ2 ad1 ad2 nv1 nv2 x x
  | [], _, x, hx => by cases hx
  | a :: l, h, x, hx => by
    rcases List.mem_cons.1 hx with rfl | hx
    · exact h.1
    · exact SameL.self h.2 x hx

theorem callE_core {l : Tabs} {e : Ent} (he : l.get e.key = some e) (hG : GOK G Im0 w0) (hR : Rel l.F ρ w0 M0 Im0 ad m w) {nm : Nat} {args : List SV} {g : E} {v : SV}
    (h : callE e m nm args = some (g, v, m')) : g.kind = .b ∧ (g.tt l.F ρ = true → ∃ (xs : List Int) (hs : Nat → Hd) (M1 Im : Nat → Prop), fits e.pks xs ∧ e.pre xs ∧ SV.concL l.F ρ ad args = SV.concL F0 (env xs) hs e.pgen.1 ∧
      (∀ b, M1 b → ¬ Im b ∧ b < w.heap.size) ∧ GOK G Im w ∧ RelE F0 (env xs) w M1 Im hs e.pgen.2 w ∧
      ∀ (w' : World) (hs' : Nat → Hd) (Im' : Nat → Prop), (∀ j, j < e.nn → hs' j = hs j) → (∀ b, Im b → Im' b) → (∀ b, Im' b → Im b ∨ M1 b ∨ w.heap.size ≤ b) → RelE F0 (env (xs ++ outsE e.fn xs 0 e.oks)) w M1 Im' hs' e.oents w' →
        ∃ ad', v.conc l.F ρ ad' = (lastV e.ogen.1).conc F0 (env (xs ++ outsE e.fn xs 0 e.oks)) hs' ∧ Rel l.F ρ w0 M0 Im0 ad' m' w' ∧ Ext ad ad' m m' ∧ v.ok (al m')) := by
  have hB := l.BI
  unfold callE at h
  split at h
  · rename_i es srcs g0 hget
    simp only at h
    split at h
    · rename_i sets hsets
      split at h
      · rename_i hc
        obtain ⟨c1, c2, c3, c4, c5, c6, c7, c8, c9, c10⟩ := hc
        simp only [Option.some.injEq, Prod.mk.injEq] at h
        obtain ⟨rfl, rfl, rfl⟩ := h
        obtain ⟨k1, k2, k3, k4⟩ := getL_kinds e.ps [] args _ hget
        simp only at k1 k2 k3 k4
        have hpk : (E.app .b e.key preC es).kind = .b := rfl
        have hm := mkAnd_spec g0 (.app .b e.key preC es) k3 hpk l.F ρ
        refine ⟨hm.2, fun hg => ?_⟩
        rw [hm.1, Bool.and_eq_true] at hg
        have hG' := hG.now hR
        have hR0 := hR
        obtain ⟨hM, Im, h1, h2, hI⟩ := hR
        -- the parameters
        have hxs : ∃ xs, xs = es.map (E.den l.F ρ) := ⟨_, rfl⟩
        obtain ⟨xs, hxs⟩ := hxs
        have hfit : fits e.pks xs := by rw [hxs]; exact fits_of k1 k4
        have hxl : xs.length = e.np := fits_length hfit
        have hel : es.length = e.np := by rw [← hxl, hxs]; simp
        have hpre : e.pre xs := by
          have := hg.2
          unfold E.tt at this
          simp only [E.den, denL_eq, ← hxs] at this
          exact (Tabs.F_pre he c7 rfl).1 this
        have hSrc : SrcAt srcs 0 srcs := fun j s hj => by simpa using hj
        have hev : EvOK l.F ρ (env xs) (varE e.pks) 0 es := fun i x hi => by
          have hil := (List.getElem?_eq_some_iff.1 hi).1
          rw [Nat.zero_add]
          refine ⟨?_, ?_⟩
          · rw [varE_den hfit, if_pos (by rw [show e.pks.length = e.np from rfl]; omega), hxs]
            simp [List.getD, hi]
          · refine varE_kind _ _ _ ?_
            have : (es.map E.kind)[i]? = some x.kind := by simp [hi]
            rw [k1] at this; exact this
        obtain ⟨p1, p2⟩ := shgetL_spec (F := l.F) (ρ := ρ) (ρ' := env xs) (w0 := w0) (w := w) (M0 := M0) (Im := Im) (ad := ad) (m := m) (ev := varE e.pks) (S := srcs) (hs := fun j => match srcs[j]? with | some s => srcHd l.F ρ w Im ad m s | none => default)
          hB hI (fun j s hj => by simp only [hj]) e.ps [] args _ (mkB true) 0 hget (mkB_kind _) (fun j s hj => by simp at hj) hSrc hev hg.1
        generalize hhs : (fun j => match srcs[j]? with | some s => srcHd l.F ρ w Im ad m s | none => default : Nat → Hd) = hs at p1 p2
        change SV.concL l.F ρ ad args = SV.concL F0 (env xs) hs e.pgen.1 at p1
        change ∀ x ∈ e.pgen.2, _ at p2
        -- what may be written
        have hM1 : ∃ M1 : Nat → Prop, M1 = fun b => ∃ x ∈ e.pgen.2, x.2.1.tt F0 (env xs) = true ∧ mutB F0 (env xs) hs x.1 x.2.2 = some b := ⟨_, rfl⟩
        obtain ⟨M1, hM1⟩ := hM1
        have hM1b : ∀ b, M1 b → (M0 b ∨ w0.heap.size ≤ b) ∧ ¬ Im b ∧ b < w.heap.size := fun b hb => by
          rw [hM1] at hb
          obtain ⟨x, hx, hxg, hxb⟩ := hb
          obtain ⟨n, _, g', y, a1, a2, a3⟩ := (p2 x hx hxg).mu b hxb
          exact (hI.ent n g' y a1 a2).2 b a3
        have hrel : RelE F0 (env xs) w M1 Im hs e.pgen.2 w := by
          refine ⟨fun x hx hxg => ⟨(p2 x hx hxg).ok, fun b hb => ?_⟩, fun x hx y hy hxg hyg b hbx hby => ?_, hI.im, Fr.refl _ _⟩
          · have hb1 : M1 b := by rw [hM1]; exact ⟨x, hx, hxg, hb⟩
            exact ⟨Or.inl hb1, (hM1b b hb1).2⟩
          · obtain ⟨n, n1, g1, y1, a1, a2, a3⟩ := (p2 x hx hxg).mu b hbx
            obtain ⟨n', n1', g1', y1', a1', a2', a3'⟩ := (p2 y hy hyg).mu b hby
            have := hI.inj n n' g1 y1 g1' y1' b a1 a2 a1' a2' a3 a3'
            subst this
            exact nodup_flat c1 x.1 (mutJ_mem hx hbx) y.1 (mutJ_mem hy hby) n n1 n1'
        refine ⟨xs, hs, M1, Im, hfit, hpre, p1, fun b hb => ⟨(hM1b b hb).2.1, (hM1b b hb).2.2⟩, hG.fr hM hI.fr h1, hrel, fun w' hs' Im' q1 q2 q3 q5 => ?_⟩
        -- names behind the call
        have hys : ∃ ys, ys = outsE e.fn xs 0 e.oks := ⟨_, rfl⟩
        obtain ⟨ys, hys⟩ := hys
        rw [← hys] at q5 ⊢
        have hyfit : fits e.oks ys := by rw [hys]; exact outsE_fits _ _ _ _
        have hyl : ys.length = e.oks.length := fits_length hyfit
        have hod : (appsE e.key es 0 e.oks).map (E.den l.F ρ) = ys := by rw [appsE_den he c7 es e.oks 0 (by have := c8; omega), ← hxs, hys]
        have hall : fits (e.pks ++ e.oks) (xs ++ ys) := fits_append hfit hyfit
        let nw := Sh.nnL e.outL
        let ad' : Nat → Hd := fun k => if nm ≤ k ∧ k < nm + nw then hs' (e.nn + (k - nm)) else if 1000000000 ≤ k then hs' (k - 1000000000) else ad k
        have hfree : ∀ k, al m k → ¬ (nm ≤ k ∧ k < nm + nw) ∧ k < m.length := fun k hk => by
          obtain ⟨x, hx⟩ := Option.isSome_iff_exists.1 hk
          refine ⟨fun ⟨a, b⟩ => ?_, Mem.at_lt hx⟩
          have := (freeB_spec c3 (i := k - nm) (by show k - nm < nw; omega)).2
          rw [show nm + (k - nm) = k by omega, hx] at this
          cases this
        have hadal : ∀ k, al m k → ad k = ad' k := fun k hk => by
          obtain ⟨a, b⟩ := hfree k hk
          have c4' := c4
          simp only [ad', if_neg a, if_neg (show ¬ 1000000000 ≤ k by omega)]
        have hnmal : ∀ j n, srcs[j]? = some (Src.nm n) → hs j = ad n := fun j n hj => by rw [← hhs]; simp only [hj]; rfl
        have newlt : ∀ t, t < nw → nm + t < m.length := fun t ht => (freeB_spec c3 ht).1
        have nmal : ∀ j n, srcs[j]? = some (Src.nm n) → al m n := fun j n hj => getL_nm e.ps [] args _ hget n (List.mem_of_getElem? hj)
        have hadnv : ∀ j, ad' (nvC srcs e.nn nm nw j) = hs' j := fun j => by
          unfold nvC
          by_cases hj : j < e.nn
          · rw [if_pos hj]
            split
            · rename_i n hn
              rw [← hadal n (nmal j n hn), ← hnmal j n hn, q1 j hj]
            · have hnl : nm + nw ≤ m.length ∨ nw = 0 := by
                by_cases hz : nw = 0
                · exact Or.inr hz
                · exact Or.inl (by have := newlt (nw - 1) (by omega); omega)
              simp only [ad']
              rw [if_neg (by omega), if_pos (by omega), show 1000000000 + j - 1000000000 = j by omega]
          · rw [if_neg hj]
            by_cases hw : j - e.nn < nw
            · rw [if_pos hw]
              simp only [ad']
              rw [if_pos (by omega)]
              congr 1; omega
            · rw [if_neg hw]
              have hnl : nm + nw ≤ m.length ∨ nw = 0 := by
                by_cases hz : nw = 0
                · exact Or.inr hz
                · exact Or.inl (by have := newlt (nw - 1) (by omega); omega)
              simp only [ad']
              rw [if_neg (by omega), if_pos (by omega), show 1000000000 + j - 1000000000 = j by omega]
        have htr : ∀ B, Tr B l.F F0 ρ (env (xs ++ ys)) ad' hs' (evC es (appsE e.key es 0 e.oks)) (varE (e.pks ++ e.oks)) (nvC srcs e.nn nm nw) id := fun B => by
          have hkk : (appsE e.key es 0 e.oks).map E.kind = e.oks := appsE_kind _ _ _ _
          have hol := appsE_len e.key es e.oks 0
          refine ⟨hB, BI_F0, fun i => ?_, fun i => ?_, fun j _ => hadnv j⟩
          · rw [varE_den hall, List.length_append, getD_app, hxl]
            unfold evC
            rw [hel, show e.pks.length = e.np from rfl]
            by_cases hi : i < e.np
            · rw [if_pos hi, if_pos (by omega), if_pos hi, hxs]
              simp [List.getD, show i < es.length by omega]
            · rw [if_neg hi, if_neg hi]
              by_cases hi2 : i - e.np < e.oks.length
              · rw [if_pos (by omega), ← hod]
                simp [List.getD, show i - e.np < (appsE e.key es 0 e.oks).length by omega]
              · rw [if_neg (by omega)]
                simp [List.getD, List.getElem?_eq_none (show (appsE e.key es 0 e.oks).length ≤ i - e.np by omega), b2i]
          · unfold evC varE
            rw [hel]
            by_cases hi : i < e.np
            · rw [if_pos hi, List.getElem?_append_left (by exact hi)]
              have : (es.map E.kind)[i]? = e.pks[i]? := by rw [k1]; rfl
              rw [List.getElem?_map, List.getElem?_eq_getElem (show i < es.length by omega)] at this
              simp only [Option.map_some] at this
              rw [← this]
              simp [List.getD, show i < es.length by omega, E.kind]
            · rw [if_neg hi, List.getElem?_append_right (by rw [show e.pks.length = e.np from rfl]; omega), show e.pks.length = e.np from rfl]
              by_cases hi2 : i - e.np < e.oks.length
              · have : ((appsE e.key es 0 e.oks).map E.kind)[i - e.np]? = e.oks[i - e.np]? := by rw [hkk]
                rw [List.getElem?_map, List.getElem?_eq_getElem (show i - e.np < (appsE e.key es 0 e.oks).length by omega)] at this
                simp only [Option.map_some] at this
                rw [← this]
                simp [List.getD, show i - e.np < (appsE e.key es 0 e.oks).length by omega, E.kind]
              · rw [List.getElem?_eq_none (by omega)]
                simp [List.getD, List.getElem?_eq_none (show (appsE e.key es 0 e.oks).length ≤ i - e.np by omega)]
        have hkev : ∀ i k, (Sh.ksL e.outL)[i]? = some k → (evC es (appsE e.key es 0 e.oks) (e.np + i)).kind = k := fun i k hi => by
          have hkk : (appsE e.key es 0 e.oks).map E.kind = e.oks := appsE_kind _ _ _ _
          have hil : i < e.oks.length := (List.getElem?_eq_some_iff.1 hi).1
          have hol := appsE_len e.key es e.oks 0
          unfold evC
          rw [hel, if_neg (by omega), show e.np + i - e.np = i by omega]
          have : ((appsE e.key es 0 e.oks).map E.kind)[i]? = some k := by rw [hkk]; exact hi
          rw [List.getElem?_map, List.getElem?_eq_getElem (show i < (appsE e.key es 0 e.oks).length by omega)] at this
          simp only [Option.map_some, Option.some.injEq] at this
          simp [List.getD, show i < (appsE e.key es 0 e.oks).length by omega, this]
        have hrefs : ∀ j ∈ Sh.refsL e.outL, isRef srcs j = true ∧ j < e.nn := fun j hj => by
          have := List.all_eq_true.1 c9 j hj
          simpa using this
        obtain ⟨t1, t2⟩ := genL_tr (htr (e.nn + nw)) e.outL (mkB true) (mkB true) e.np e.nn (mkB_kind _) (mkB_kind _) (by simp) hkev (Nat.le_refl _) (fun j hj => by have := (hrefs j hj).2; omega)
        change SV.concL l.F ρ ad' _ = SV.concL F0 (env (xs ++ ys)) hs' e.ogen.1 at t1
        change SameL l.F F0 ρ (env (xs ++ ys)) ad' hs' (nvC srcs e.nn nm nw) id _ e.ogen.2 at t2
        generalize hgen : Sh.genL (evC es (appsE e.key es 0 e.oks)) (nvC srcs e.nn nm (Sh.nnL e.outL)) e.outL (mkB true) e.np e.nn = gen at hsets t1 t2 ⊢
        have hgo : ∀ p : Nat → Prop, (∀ j, e.nn ≤ j → j < e.nn + nw → p (nvC srcs e.nn nm nw j)) → (∀ j ∈ Sh.refsL e.outL, p (nvC srcs e.nn nm nw j)) → SV.okL p gen.1 ∧ ∀ x ∈ gen.2, (e.nn ≤ x.1 ∧ x.1 < e.nn + nw) ∧ ∀ ty cs, x.2.2 = .cells ty cs → SV.okL p cs := fun p a b => by
          rw [← hgen]; exact genL_ok _ _ _ _ a b
        have hgh : ∀ j, e.nn ≤ j → j < e.nn + nw → ∃ x ∈ gen.2, x.1 = j := fun j a b => by rw [← hgen]; exact genL_has _ _ _ _ j a b
        have hnew : ∀ j, e.nn ≤ j → j < e.nn + nw → nvC srcs e.nn nm nw j = nm + (j - e.nn) ∧ nm + (j - e.nn) < m.length := fun j a b => by
          refine ⟨?_, newlt _ (by omega)⟩
          unfold nvC
          rw [if_neg (by omega), if_pos (by omega)]
        have hself := (genL_tr (Tr.params (ys := ys) e.nn hfit q1) e.ps (mkB true) (mkB true) 0 0 (mkB_kind _) (mkB_kind _) (by simp) (fun i k hi => by rw [Nat.zero_add]; exact varE_kind _ _ _ hi) (by rw [Nat.zero_add]; exact Nat.le_refl _) (fun j hj => by have := List.all_eq_true.1 c10 j hj; simpa using this)).2.self
        change ∀ x ∈ e.pgen.2, _ at hself
        have hsrclen : ∀ j s, srcs[j]? = some s → j < e.nn := fun j s hj => by have := (List.getElem?_eq_some_iff.1 hj).1; rw [k2] at this; exact this
        -- what the memory behind the call holds
        let dead := ((mutJ e.pgen.2).filter fun j => !e.kp.contains j && !(e.os.any fun o => o.1 == j)).flatMap (srcOf srcs)
        have hkeep : ∀ k, al m k → al (setEs (setEs (killL m dead) sets) (gen.2.map fun x => (nvC srcs e.nn nm nw x.1, x.2.1, x.2.2))) k := fun k hk => setEs_al (setEs_al ((killL_al dead m k).2 hk))
        have hnews : ∀ j, e.nn ≤ j → j < e.nn + nw → al (setEs (setEs (killL m dead) sets) (gen.2.map fun x => (nvC srcs e.nn nm nw x.1, x.2.1, x.2.2))) (nvC srcs e.nn nm nw j) := fun j a b => by
          obtain ⟨x, x1, x2⟩ := hgh j a b
          obtain ⟨r1, r2⟩ := hnew j a b
          have := setEs_new (l := gen.2.map fun x => (nvC srcs e.nn nm nw x.1, x.2.1, x.2.2)) (m := setEs (killL m dead) sets) (y := (nvC srcs e.nn nm nw x.1, x.2.1, x.2.2)) (List.mem_map.2 ⟨x, x1, rfl⟩) (by rw [setEs_len, killL_len, x2]; show nvC srcs e.nn nm nw j < _; rw [r1]; exact r2)
          rwa [x2] at this
        obtain ⟨gok1, gok2⟩ := hgo (al (setEs (setEs (killL m dead) sets) (gen.2.map fun x => (nvC srcs e.nn nm nw x.1, x.2.1, x.2.2)))) hnews fun j hj => by
          obtain ⟨r1, r2⟩ := hrefs j hj
          unfold isRef at r1
          split at r1
          · rename_i n hn
            have : nvC srcs e.nn nm nw j = n := by unfold nvC; rw [if_pos r2]; simp only [hn]
            rw [this]
            exact hkeep n (nmal j n hn)
          · cases r1
        let NameIs : Nat → Nat → Prop := fun j n => (srcOf srcs j = [n] ∧ j < e.nn) ∨ (e.nn ≤ j ∧ n = nvC srcs e.nn nm nw j)
        have hIm : ∀ b, Im b → Im' b ∧ w'.heap[b]? = w.heap[b]? := fun b hb => ⟨q2 b hb, q5.fr.block b (hI.im b hb) fun t => (hM1b b t).2.1 hb⟩
        have cls : ∀ n g x, (setEs (setEs (killL m dead) sets) (gen.2.map fun x => (nvC srcs e.nn nm nw x.1, x.2.1, x.2.2))).at n = some (g, x) → g.tt l.F ρ = true →
            ((∃ g', m.at n = some (g', x) ∧ g'.tt l.F ρ = true) ∧ ∀ b, mutB l.F ρ ad n x = some b → ¬ M1 b ∧ ¬ Im' b) ∨
            (∃ z ∈ e.oents, z.2.1.tt F0 (env (xs ++ ys)) = true ∧ NameIs z.1 n ∧ mutB l.F ρ ad' n x = mutB F0 (env (xs ++ ys)) hs' z.1 z.2.2 ∧ BlkOK l.F ρ Im' ad' n w' x) ∨ x = .dead := by
          intro n g x hn hg'
          rcases mem_setEs hn with hn | ⟨hn1, hn⟩ | ⟨y, hy, hy1, hy2⟩
          · obtain ⟨y, hy, he'⟩ := List.mem_map.1 hn
            simp only [Prod.mk.injEq] at he'
            obtain ⟨rfl, rfl, rfl⟩ := he'
            obtain ⟨z, hz, hs⟩ := t2.mem y hy
            right; left
            have hzo : z ∈ e.oents := by unfold Ent.oents; exact List.mem_append_right _ (List.mem_append_right _ hz)
            have hzg : z.2.1.tt F0 (env (xs ++ ys)) = true := by rw [← hs.gd]; exact hg'
            have hb1 := (q5.ent z hzo hzg).1
            exact ⟨z, hzo, hzg, Or.inr ⟨by rw [← hs.nm]; exact (gok2 y hy).1.1, by rw [← hs.nm]⟩, hs.mu, (hs.ok Im' w').2 hb1⟩
          · rcases mem_setEs hn with hn | ⟨hn2, hn⟩ | ⟨y, hy, hy1, hy2⟩
            · obtain ⟨j, ty, vs', cs0, s1, s2, s3, s4, s5⟩ := objSet_spec hsets _ hn
              simp only at s1 s3 s5
              subst s3
              obtain ⟨us', u1, u2⟩ := objE_same (F1 := l.F) (F2 := F0) (ρ1 := ρ) (ρ2 := env (xs ++ ys)) (ad1 := ad') (ad2 := hs') t1 j ty vs' s4
              right; left
              have hzo : (j, mkB true, Blk.cells ty us') ∈ e.oents := by unfold Ent.oents; exact List.mem_append_left _ u1
              have hjn := hsrclen j _ s1
              have hadn : ad' n = hs' j := by rw [← hadal n (Mem.at_al s5), ← hnmal j n s1, q1 j hjn]
              have hb1 := (q5.ent _ hzo (by simp)).1
              refine ⟨_, hzo, by simp, Or.inl ⟨by simp [srcOf, s1, Src.ns], hjn⟩, by simp only [mutB, hadn], ?_⟩
              simp only [BlkOK] at hb1 ⊢
              rw [hadn, u2]
              exact hb1
            · rcases killL_at hn with hd | ⟨hn3, hn4⟩
              · exact Or.inr (Or.inr hd)
              · cases hmb : mutB l.F ρ ad n x with
                | none => exact Or.inl ⟨⟨g, hn3, hg'⟩, fun b hb => by cases hb⟩
                | some b =>
                  obtain ⟨hx1, hx2⟩ := hI.ent n g x hn3 hg'
                  by_cases hb1 : M1 b
                  · have hb1' := hb1
                    rw [hM1] at hb1'
                    obtain ⟨y, hy, hyg, hyb⟩ := hb1'
                    have hEnt := p2 y hy hyg
                    obtain ⟨n', n1, g1, y1, a1, a2, a3⟩ := hEnt.mu b hyb
                    have hnn := hI.inj n' n g1 y1 g x b a1 a2 hn3 hg' a3 hmb
                    subst hnn
                    have hyj := mutJ_mem hy hyb
                    have hkp : e.kp.contains y.1 = true := by
                      cases hkc : e.kp.contains y.1 with
                      | true => rfl
                      | false =>
                        exfalso
                        by_cases hos : (e.os.any fun o => o.1 == y.1) = true
                        · obtain ⟨o, ho1, ho2⟩ := List.any_eq_true.1 hos
                          have hoj : o.1 = y.1 := by simpa using ho2
                          obtain ⟨n'', b1, yy, b2, b3⟩ := objSet_has hsets y.1 (List.mem_map.2 ⟨o, ho1, hoj⟩)
                          have : srcOf srcs y.1 = [n''] := by simp [srcOf, b1, Src.ns]
                          rw [this] at n1
                          simp only [List.mem_singleton] at n1
                          subst n1
                          exact hn2 yy b2 b3
                        · refine hn4 (List.mem_flatMap.2 ⟨y.1, List.mem_filter.2 ⟨hyj, ?_⟩, n1⟩)
                          rw [hkc]
                          simp only [Bool.not_false, Bool.true_and, Bool.not_eq_true', Bool.not_eq_true] at hos ⊢
                          exact hos
                    have hyo : y ∈ e.oents := by unfold Ent.oents keptE; exact List.mem_append_right _ (List.mem_append_left _ (List.mem_filter.2 ⟨hy, hkp⟩))
                    have hse := hself y hy
                    have hyg' : y.2.1.tt F0 (env (xs ++ ys)) = true := by rw [← hse.gd]; exact hyg
                    obtain ⟨r1, r2⟩ := q5.ent y hyo hyg'
                    have r1' := (hse.ok Im' w').2 r1
                    have hk1 := List.all_eq_true.1 c2 y.1 (by simpa using hkp)
                    have hadn : ad' n' = ad n' := (hadal n' (Mem.at_al hn3)).symm
                    right; left
                    have hmu : mutB l.F ρ ad' n' x = mutB F0 (env (xs ++ ys)) hs' y.1 y.2.2 := by
                      rw [mutB_congr hadn, hmb]
                      have := hse.mu
                      simp only [id] at this
                      rw [← this, hyb]
                    split at hk1
                    · rename_i n0 hn0
                      have hso : srcOf srcs y.1 = [n0] := by simp [srcOf, hn0, Src.ns]
                      rw [hso] at n1
                      simp only [List.mem_singleton] at n1
                      subst n1
                      refine ⟨y, hyo, hyg', Or.inl ⟨hso, hsrclen _ _ hn0⟩, hmu, ?_⟩
                      obtain ⟨ty, cs, hc⟩ := hEnt.nm n' hn0
                      have e1 := hEnt.ok
                      rw [hc] at e1 r1' hyb
                      simp only [BlkOK, id] at e1 r1'
                      simp only [mutB, Option.some.injEq] at hyb
                      rw [hyb] at e1 r1'
                      refine hx1.fr hIm (fun b' hb' => ?_) hadn fun ty' cs' ex => ?_
                      · rw [hmb] at hb'
                        simp only [Option.some.injEq] at hb'
                        subst hb'
                        rw [e1, r1']
                      · subst ex
                        exact (SV.concL_congr hadal cs' (hI.ok n' g ty' cs' hn3)).symm
                    · rename_i ty row n0 le0 V hn0
                      obtain ⟨own, le, c, v1, v2, v3, v4⟩ := hEnt.vw ty row _ V hn0
                      simp only [viewL] at v2
                      split at v2
                      · rename_i g2 ty2 row2 own2 le2 c2' hat
                        split at v2
                        · rename_i hcc
                          obtain ⟨rfl, rfl, w3, w4, w5, w6⟩ := hcc
                          simp only [Option.some.injEq] at v2
                          subst v2
                          have hso : srcOf srcs y.1 = [n0] := by simp [srcOf, hn0, Src.ns]
                          rw [hso] at n1
                          simp only [List.mem_singleton] at n1
                          subst n1
                          rw [hn3] at hat
                          simp only [Option.some.injEq, Prod.mk.injEq] at hat
                          obtain ⟨rfl, rfl⟩ := hat
                          refine ⟨y, hyo, hyg', Or.inl ⟨hso, hsrclen _ _ hn0⟩, hmu, ?_⟩
                          cases own2 with
                          | false => simp [mutB] at hmb
                          | true =>
                            cases own with
                            | false => rw [v1] at hyb; simp [mutB] at hyb
                            | true =>
                              rw [v1] at r1'
                              obtain ⟨z1, z2, z3⟩ := r1'
                              simp only [cond_true, id] at z3
                              obtain ⟨x1, x2, x3⟩ := hx1
                              simp only at v3 v4
                              refine ⟨x1, x2, ?_⟩
                              simp only [cond_true]
                              rw [v3] at z3
                              refine z3.hd ?_
                              rw [← v4, hadn, E.same_eq _ _ w3]
                              simp only [SV.conc, x2, Int.toNat_natCast]
                        · cases v2
                      · cases v2
                    · cases hk1
                  · refine Or.inl ⟨⟨g, hn3, hg'⟩, fun b' hb' => ?_⟩
                    simp only [Option.some.injEq] at hb'
                    subst hb'
                    refine ⟨hb1, fun hi => ?_⟩
                    obtain ⟨_, f2, f3⟩ := hx2 b hmb
                    rcases q3 b hi with h | h | h
                    · exact f2 h
                    · exact hb1 h
                    · omega
            · exfalso
              obtain ⟨j, ty, vs', cs0, s1, s2, s3, s4, s5⟩ := objSet_spec hsets y hy
              have := Mem.at_lt s5
              rw [killL_len] at hy2
              omega
          · exfalso
            obtain ⟨z, hz, he'⟩ := List.mem_map.1 hy
            obtain ⟨⟨a, b⟩, _⟩ := gok2 z hz
            obtain ⟨r1, r2⟩ := hnew z.1 a b
            rw [setEs_len, killL_len] at hy2
            rw [← he'] at hy1
            simp only at hy1
            omega
        have hmz : ∀ z ∈ e.oents, z.2.1.tt F0 (env (xs ++ ys)) = true → ∀ b, mutB F0 (env (xs ++ ys)) hs' z.1 z.2.2 = some b → ((M0 b ∨ w0.heap.size ≤ b) ∧ ¬ Im' b ∧ b < w'.heap.size) ∧ (M1 b ∨ w.heap.size ≤ b) := fun z hz hzg b hb => by
          obtain ⟨r1, r2, r3⟩ := (q5.ent z hz hzg).2 b hb
          refine ⟨⟨?_, r2, r3⟩, r1⟩
          rcases r1 with r1 | r1
          · exact (hM1b b r1).1
          · have := hI.fr.size; exact Or.inr (by omega)
        refine ⟨ad', ?_, ⟨hM, Im', fun b hb => q2 b (h1 b hb), fun b hb => ?_, ?_⟩, ⟨hadal, hkeep⟩, lastV_ok gok1⟩
        · exact lastV_conc t1
        · rcases q3 b hb with h | h | h
          · exact h2 b h
          · rcases (hM1b b h).1 with h | h
            · exact Or.inr (Or.inl h)
            · exact Or.inr (Or.inr h)
          · have := hI.fr.size; exact Or.inr (Or.inr (by omega))
        · refine hI.step q5.fr (fun b _ hb => ⟨(hM1b b hb).1, (hM1b b hb).2.1⟩) q2 q5.im hadal hkeep (fun n g x hn hg' => ?_) (fun n g ty cs hn => ?_) (fun n k g x g' y b a1 a2 a3 a4 a5 a6 a7 => ?_)
          · rcases cls n g x hn hg' with h | ⟨z, z1, z2, z3, z4, z5⟩ | rfl
            · exact Or.inl h
            · exact Or.inr ⟨z5, fun b hb => hmz z z1 z2 b (by rw [← z4]; exact hb)⟩
            · exact Or.inr ⟨trivial, fun b hb => by simp [mutB] at hb⟩
          · rcases mem_setEs hn with hn | ⟨_, hn⟩ | ⟨y, hy, hy1, hy2⟩
            · obtain ⟨y, hy, he'⟩ := List.mem_map.1 hn
              simp only [Prod.mk.injEq] at he'
              exact (gok2 y hy).2 ty cs he'.2.2
            · rcases mem_setEs hn with hn | ⟨_, hn⟩ | ⟨y, hy, hy1, hy2⟩
              · obtain ⟨j, ty', vs', cs0, s1, s2, s3, s4, s5⟩ := objSet_spec hsets _ hn
                simp only [Blk.cells.injEq] at s3
                obtain ⟨rfl, rfl⟩ := s3
                exact objE_ok gok1 j _ _ s4
              · rcases killL_at hn with hd | ⟨hn3, _⟩
                · cases hd
                · exact SV.okL_mono hkeep _ (hI.ok n g ty cs hn3)
              · exfalso
                obtain ⟨j, ty', vs', cs0, s1, s2, s3, s4, s5⟩ := objSet_spec hsets y hy
                have := Mem.at_lt s5
                rw [killL_len] at hy2
                omega
            · exfalso
              obtain ⟨z, hz, he'⟩ := List.mem_map.1 hy
              obtain ⟨⟨a, b⟩, _⟩ := gok2 z hz
              obtain ⟨r1, r2⟩ := hnew z.1 a b
              rw [setEs_len, killL_len] at hy2
              rw [← he'] at hy1
              simp only at hy1
              have r1' : nvC srcs e.nn nm (Sh.nnL e.outL) z.1 = nm + (z.1 - e.nn) := r1
              omega
          · have up : ∀ n g x, (setEs (setEs (killL m dead) sets) (gen.2.map fun x => (nvC srcs e.nn nm nw x.1, x.2.1, x.2.2))).at n = some (g, x) → g.tt l.F ρ = true → mutB l.F ρ ad' n x = some b → ∃ z ∈ e.oents, z.2.1.tt F0 (env (xs ++ ys)) = true ∧ NameIs z.1 n ∧ mutB F0 (env (xs ++ ys)) hs' z.1 z.2.2 = some b := fun n g x hn hg' hb => by
              rcases cls n g x hn hg' with ⟨⟨g', o1, o2⟩, o3⟩ | ⟨z, z1, z2, z3, z4, z5⟩ | rfl
              · exfalso
                rw [mutB_congr (hadal n (Mem.at_al o1)).symm] at hb
                rcases a7 with a7 | a7
                · exact (o3 b hb).1 a7
                · have := ((hI.ent n g' x o1 o2).2 b hb).2.2; omega
              · exact ⟨z, z1, z2, z3, by rw [← z4]; exact hb⟩
              · simp [mutB] at hb
            obtain ⟨z, z1, z2, z3, z4⟩ := up n g x a1 a2 a5
            obtain ⟨z', z1', z2', z3', z4'⟩ := up k g' y a3 a4 a6
            have := q5.inj z z1 z' z1' z2 z2' b z4 z4'
            rw [← this] at z3'
            rcases z3 with ⟨e1, e2⟩ | ⟨e1, e2⟩ <;> rcases z3' with ⟨f1, f2⟩ | ⟨f1, f2⟩
            · rw [e1] at f1; simpa using f1
            · omega
            · omega
            · rw [e2, f2]
      · cases h
    · cases h
  · cases h

theorem callE_sound {l : Tabs} {e : Ent} (he : l.get e.key = some e) (hE : EntryOK P G e) (hG : GOK G Im0 w0) (hR : Rel l.F ρ w0 M0 Im0 ad m w) {nm : Nat} {args : List SV} {g : E} {v : SV}
    (h : callE e m nm args = some (g, v, m')) : g.kind = .b ∧ (g.tt l.F ρ = true → Calls P e.f (SV.concL l.F ρ ad args).toArray w fun en w' => ∃ ad', en = .returned (v.conc l.F ρ ad') ∧ Rel l.F ρ w0 M0 Im0 ad' m' w' ∧ Ext ad ad' m m' ∧ v.ok (al m')) := by
  obtain ⟨h1, h2⟩ := callE_core he hG hR h
  refine ⟨h1, fun ht => ?_⟩
  obtain ⟨xs, hs, M1, Im, a1, a2, a3, a4, a5, a6, a7⟩ := h2 ht
  rw [a3]
  refine (hE xs a1 a2 w M1 Im hs a4 a5 a6).mono ?_
  rintro en w' ⟨hs', Im', q1, q2, q3, rfl, q5⟩
  obtain ⟨ad', r1, r2, r3, r4⟩ := a7 w' hs' Im' q1 q2 q3 q5
  exact ⟨ad', by rw [r1], r2, r3, r4⟩
end
end Go.Proofs.YtbolcnlenmphhaaDoor.Ew
