/- Whole bodies: ways through the code that meet again are merged; loops of few rounds are unrolled; calls are taken by a summary or walked into. -/
import Derived.Test.YtbolcnlenmphhaaDoorEvH
import Derived.LoopN
set_option linter.unusedVariables false
set_option linter.unusedSimpArgs false
namespace Go.Proofs.YtbolcnlenmphhaaDoor.Ev
open Go Go.RowKit

abbrev St := Tm × Mem

inductive Lab where
  | nrm
  | ret
  | ex (id : Nat)
  deriving DecidableEq, Repr, Inhabited
def Lab.exit : Lab → Exit
  | .nrm => .normal
  | .ret => .ret
  | .ex id => .exit id

/-- Which way is taken. -/
inductive DT where
  | leaf (l : Lab)
  | br (c : E) (a b : DT)
  | join (a b : DT)
  | rel (id : Nat) (a : DT)
  deriving Repr, Inhabited

def DT.eval (F : Fam) (ρ : Nat → Int) : DT → Lab
  | .leaf l => l
  | .br c a b => bif c.tt F ρ then a.eval F ρ else b.eval F ρ
  | .join a b => if a.eval F ρ = .nrm then b.eval F ρ else a.eval F ρ
  | .rel id a => if a.eval F ρ = .ex id then .nrm else a.eval F ρ

def DT.is (l : Lab) : DT → E
  | .leaf l' => mkB (decide (l' = l))
  | .br c a b => if c.kind = .b then mkIte c (a.is l) (b.is l) else .ite c (a.is l) (b.is l)
  | .join a b => if l = .nrm then mkAnd (a.is .nrm) (b.is .nrm) else mkOr (a.is l) (mkAnd (a.is .nrm) (b.is l))
  | .rel id a => if l = .nrm then mkOr (a.is .nrm) (a.is (.ex id)) else if l = .ex id then mkB false else a.is l

theorem DT.is_spec (F : Fam) (ρ : Nat → Int) : ∀ (d : DT) (l : Lab), (d.is l).kind = .b ∧ ((d.is l).tt F ρ = true ↔ d.eval F ρ = l)
  | .leaf l', l => ⟨rfl, by simp only [DT.is, mkB_tt, DT.eval, decide_eq_true_eq]⟩
  | .br c a b, l => by
    obtain ⟨a1, a2⟩ := DT.is_spec F ρ a l
    obtain ⟨b1, b2⟩ := DT.is_spec F ρ b l
    simp only [DT.is, DT.eval]
    split
    · rename_i hc
      obtain ⟨i1, i2⟩ := mkIte_spec c (a.is l) (b.is l) hc (by rw [a1, b1]) F ρ
      rw [a1] at i2
      refine ⟨i2, ?_⟩
      rw [E.val_b i2, E.val_b a1, E.val_b b1] at i1
      rcases Bool.eq_false_or_eq_true (c.tt F ρ) with hct | hct
      · rw [hct] at i1 ⊢; simp only [cond_true, Value.bool.injEq] at i1 ⊢; rw [i1]; exact a2
      · rw [hct] at i1 ⊢; simp only [cond_false, Value.bool.injEq] at i1 ⊢; rw [i1]; exact b2
    · refine ⟨a1, ?_⟩
      have : (E.ite c (a.is l) (b.is l)).tt F ρ = bif c.tt F ρ then (a.is l).tt F ρ else (b.is l).tt F ρ := by
        simp only [E.tt, E.den]
        cases i2b (E.den F ρ c) <;> rfl
      rw [this]
      rcases Bool.eq_false_or_eq_true (c.tt F ρ) with hct | hct
      · rw [hct]; exact a2
      · rw [hct]; exact b2
  | .join a b, l => by
    obtain ⟨n1, n2⟩ := DT.is_spec F ρ a .nrm
    obtain ⟨a1, a2⟩ := DT.is_spec F ρ a l
    obtain ⟨b1, b2⟩ := DT.is_spec F ρ b l
    obtain ⟨m1, m2⟩ := DT.is_spec F ρ b .nrm
    simp only [DT.is, DT.eval]
    by_cases hl : l = .nrm
    · rw [if_pos hl]
      subst hl
      have := mkAnd_spec (a.is .nrm) (b.is .nrm) n1 m1 F ρ
      refine ⟨this.2, ?_⟩
      rw [this.1, Bool.and_eq_true, n2, m2]
      by_cases h : a.eval F ρ = .nrm
      · rw [if_pos h]; exact ⟨fun x => x.2, fun x => ⟨h, x⟩⟩
      · rw [if_neg h]; exact ⟨fun x => x.1, fun x => (h x).elim⟩
    · rw [if_neg hl]
      have h1 := mkAnd_spec (a.is .nrm) (b.is l) n1 b1 F ρ
      have h2 := mkOr_spec (a.is l) _ a1 h1.2 F ρ
      refine ⟨h2.2, ?_⟩
      rw [h2.1, h1.1, Bool.or_eq_true, Bool.and_eq_true, a2, n2, b2]
      by_cases h : a.eval F ρ = .nrm
      · rw [if_pos h]
        exact ⟨fun x => x.elim (fun y => (hl (y.symm.trans h)).elim) (fun y => y.2), fun x => Or.inr ⟨h, x⟩⟩
      · rw [if_neg h]; exact ⟨fun x => x.elim id (fun y => (h y.1).elim), Or.inl⟩
  | .rel id a, l => by
    obtain ⟨n1, n2⟩ := DT.is_spec F ρ a .nrm
    obtain ⟨a1, a2⟩ := DT.is_spec F ρ a l
    obtain ⟨e1, e2⟩ := DT.is_spec F ρ a (.ex id)
    simp only [DT.is, DT.eval]
    by_cases hl : l = .nrm
    · rw [if_pos hl]
      subst hl
      have := mkOr_spec (a.is .nrm) (a.is (.ex id)) n1 e1 F ρ
      refine ⟨this.2, ?_⟩
      rw [this.1, Bool.or_eq_true, n2, e2]
      by_cases h : a.eval F ρ = .ex id
      · rw [if_pos h]; exact ⟨fun _ => rfl, fun _ => Or.inr h⟩
      · rw [if_neg h]; exact ⟨fun x => x.elim (fun z => z) (fun y => (h y).elim), Or.inl⟩
    · rw [if_neg hl]
      by_cases hl2 : l = .ex id
      · rw [if_pos hl2]
        subst hl2
        refine ⟨rfl, ?_⟩
        simp only [mkB_tt]
        by_cases h : a.eval F ρ = .ex id
        · rw [if_pos h]; exact ⟨fun x => (Bool.false_ne_true x).elim, fun x => (hl x.symm).elim⟩
        · rw [if_neg h]; exact ⟨fun x => (Bool.false_ne_true x).elim, fun x => (h x).elim⟩
      · rw [if_neg hl2]
        refine ⟨a1, ?_⟩
        rw [a2]
        by_cases h : a.eval F ρ = .ex id
        · rw [if_pos h]; exact ⟨fun x => (hl2 (x.symm.trans h)).elim, fun x => (hl x.symm).elim⟩
        · rw [if_neg h]

theorem DT.is_true {F : Fam} {ρ : Nat → Int} {d : DT} {l : Lab} (h : d.eval F ρ = l) : (d.is l).tt F ρ = true := (DT.is_spec F ρ d l).2.2 h
theorem DT.is_false {F : Fam} {ρ : Nat → Int} {d : DT} {l : Lab} (h : d.eval F ρ ≠ l) : (d.is l).tt F ρ = false := Bool.eq_false_iff.2 fun x => h ((DT.is_spec F ρ d l).2.1 x)

def mkJoin (a b : DT) : DT :=
  match a with
  | .leaf .nrm => b
  | .leaf l => .leaf l
  | a => .join a b
theorem mkJoin_eval (F : Fam) (ρ : Nat → Int) (a b : DT) : (mkJoin a b).eval F ρ = if a.eval F ρ = .nrm then b.eval F ρ else a.eval F ρ := by
  unfold mkJoin
  split
  · simp [DT.eval]
  · rename_i l hl
    have : l ≠ .nrm := fun e => hl (by rw [e])
    simp [DT.eval, this]
  · rfl
def mkRel (id : Nat) (a : DT) : DT :=
  match a with
  | .leaf l => .leaf (if l = .ex id then .nrm else l)
  | a => .rel id a
theorem mkRel_eval (F : Fam) (ρ : Nat → Int) (id : Nat) (a : DT) : (mkRel id a).eval F ρ = if a.eval F ρ = .ex id then .nrm else a.eval F ρ := by
  unfold mkRel
  split <;> rfl

/-! ### names that are there -/
mutual
def SV.okB (m : Mem) : SV → Bool
  | .ptr n _ | .pi n _ _ _ | .sl n _ _ _ => (m.at n).isSome
  | .fn _ cs | .agg cs | .tup cs => SV.okLB m cs
  | .gd _ v => SV.okB m v
  | .ite _ a b => SV.okB m a && SV.okB m b
  | _ => true
def SV.okLB (m : Mem) : List SV → Bool
  | [] => true
  | v :: r => SV.okB m v && SV.okLB m r
end
mutual
theorem SV.okB_spec {m : Mem} : ∀ v : SV, SV.okB m v = true → v.ok (al m)
  | .ptr n _, h | .pi n _ _ _, h | .sl n _ _ _, h => by simp only [SV.okB] at h; exact h
  | .fn _ cs, h | .agg cs, h | .tup cs, h => by simp only [SV.okB] at h; simp only [SV.ok]; exact SV.okLB_spec cs h
  | .gd _ v, h => by simp only [SV.okB] at h; simp only [SV.ok]; exact SV.okB_spec v h
  | .ite _ a b, h => by simp only [SV.okB, Bool.and_eq_true] at h; simp only [SV.ok]; exact ⟨SV.okB_spec a h.1, SV.okB_spec b h.2⟩
  | .sc _, _ | .und, _ | .nilp _, _ | .gl _ _, _ => by simp [SV.ok]
theorem SV.okLB_spec {m : Mem} : ∀ l : List SV, SV.okLB m l = true → SV.okL (al m) l
  | [], _ => trivial
  | v :: r, h => by simp only [SV.okLB, Bool.and_eq_true] at h; exact ⟨SV.okB_spec v h.1, SV.okLB_spec r h.2⟩
end

/-! ### merging of states -/
def mergeBlk (c : E) : Option (Nat × List SV) → Option (Nat × List SV) → Option (Nat × List SV)
  | some (ty, cs), some (ty', cs') => if ty = ty' ∧ cs.length = cs'.length then some (ty, mergeL c cs cs') else none
  | _, _ => none
def prune (m : Mem) : Mem := m.map fun
  | some (ty, cs) => bif SV.okLB m cs then some (ty, cs) else none
  | none => none
def okMem (m : Mem) : Bool := m.all fun
  | some (_, cs) => SV.okLB m cs
  | none => true
def keepsB (m m' : Mem) : Bool := (List.range m.length).all fun k => (m.at k).isNone || (m'.at k).isSome
def mergeSlot (c : E) (m : Mem) : Option SV → Option SV → Option SV
  | some x, some y => let v := merge c x y; bif SV.okB m v then some v else none
  | _, _ => none
def mergeSt (c : E) (m0 : Mem) (s1 s2 : St) : Option St :=
  let m := prune (prune (prune (List.zipWith (mergeBlk c) s1.2 s2.2)))
  if c.kind = .b ∧ s1.1.length = s2.1.length ∧ okMem m = true ∧ keepsB m0 m = true then some (List.zipWith (mergeSlot c m) s1.1 s2.1, m) else none

theorem prune_at {m : Mem} {k : Nat} {x} (h : (prune m).at k = some x) : m.at k = some x := by
  unfold prune Mem.at at h
  simp only [List.getD, List.getElem?_map] at h
  unfold Mem.at
  simp only [List.getD]
  cases hk : m[k]? with
  | none => simp [hk] at h
  | some b =>
    rw [hk] at h
    simp only [Option.map_some, Option.getD_some] at h ⊢
    cases b with
    | none => cases h
    | some y =>
      obtain ⟨ty, cs⟩ := y
      simp only at h
      cases hb : SV.okLB m cs <;> rw [hb] at h
      · cases h
      · exact h

theorem okMem_spec {m : Mem} (h : okMem m = true) {k ty cs} (hk : m.at k = some (ty, cs)) : SV.okL (al m) cs := by
  unfold okMem at h
  have hlt := Mem.at_lt hk
  have hm : some (ty, cs) ∈ m := by
    unfold Mem.at at hk
    simp only [List.getD, List.getElem?_eq_getElem hlt, Option.getD_some] at hk
    rw [← hk]
    exact List.getElem_mem hlt
  exact SV.okLB_spec cs (List.all_eq_true.1 h _ hm)

theorem keepsB_spec {m m' : Mem} (h : keepsB m m' = true) (k : Nat) (hk : al m k) : al m' k := by
  unfold keepsB at h
  have hlt : k < m.length := by
    obtain ⟨x, hx⟩ := Option.isSome_iff_exists.1 hk
    exact Mem.at_lt hx
  have := List.all_eq_true.1 h k (List.mem_range.2 hlt)
  simp only [Bool.or_eq_true] at this
  rcases this with h1 | h1
  · unfold al at hk; rw [Option.isNone_iff_eq_none] at h1; rw [h1] at hk; cases hk
  · exact h1

section
variable {P : Program} {F : Fam} {ρ : Nat → Int} {G : Glob} {T : Tab} {w0 w : World} {ad : Nat → Nat} {m : Mem} {tm : Tm} {en : Env} {a : Act}

theorem zip_at {c : E} {m1 m2 : Mem} {k ty cs} (h : Mem.at (List.zipWith (mergeBlk c) m1 m2) k = some (ty, cs)) :
    ∃ cs1 cs2, m1.at k = some (ty, cs1) ∧ m2.at k = some (ty, cs2) ∧ cs1.length = cs2.length ∧ cs = mergeL c cs1 cs2 := by
  unfold Mem.at at h
  simp only [List.getD, List.getElem?_zipWith] at h
  cases h1 : m1[k]? with
  | none => simp [h1] at h
  | some b1 =>
    cases h2 : m2[k]? with
    | none => simp [h1, h2] at h
    | some b2 =>
      simp only [h1, h2, Option.getD_some] at h
      unfold mergeBlk at h
      split at h
      · rename_i ty1 cs1 ty2 cs2
        split at h
        · rename_i hc
          simp only [Option.some.injEq, Prod.mk.injEq] at h
          obtain ⟨rfl, rfl⟩ := h
          obtain ⟨rfl, hl⟩ := hc
          exact ⟨cs1, cs2, by simp [Mem.at, List.getD, h1], by simp [Mem.at, List.getD, h2], hl, rfl⟩
        · cases h
      · cases h

theorem mergeSt_spec {c : E} {m0 : Mem} {s1 s2 s : St} (h : mergeSt c m0 s1 s2 = some s) :
    (∀ k, al m0 k → al s.2 k) ∧ (∀ ad a w, c.tt F ρ = true → RelS F ρ w0 ad s1 a w → RelS F ρ w0 ad s a w) ∧ (∀ ad a w, c.tt F ρ = false → RelS F ρ w0 ad s2 a w → RelS F ρ w0 ad s a w) := by
  unfold mergeSt at h
  simp only at h
  split at h
  · rename_i hc
    obtain ⟨hk, hl, hokm, hkeep⟩ := hc
    simp only [Option.some.injEq] at h
    subst h
    have hat : ∀ k ty cs, Mem.at (prune (prune (prune (List.zipWith (mergeBlk c) s1.2 s2.2)))) k = some (ty, cs) → ∃ cs1 cs2, s1.2.at k = some (ty, cs1) ∧ s2.2.at k = some (ty, cs2) ∧ cs1.length = cs2.length ∧ cs = mergeL c cs1 cs2 := fun k ty cs hk => zip_at (prune_at (prune_at (prune_at hk)))
    have hsl : ∀ i v, Tm.at (List.zipWith (mergeSlot c (prune (prune (prune (List.zipWith (mergeBlk c) s1.2 s2.2))))) s1.1 s2.1) i = some v → ∃ x y, s1.1.at i = some x ∧ s2.1.at i = some y ∧ v = merge c x y ∧ v.ok (al (prune (prune (prune (List.zipWith (mergeBlk c) s1.2 s2.2))))) := by
      intro i v hv
      unfold Tm.at at hv
      simp only [List.getD, List.getElem?_zipWith] at hv
      cases h1 : s1.1[i]? with
      | none => simp [h1] at hv
      | some x =>
        cases h2 : s2.1[i]? with
        | none => simp [h1, h2] at hv
        | some y =>
          simp only [h1, h2, Option.getD_some] at hv
          unfold mergeSlot at hv
          split at hv
          · rename_i x y
            cases hb : SV.okB (prune (prune (prune (List.zipWith (mergeBlk c) s1.2 s2.2)))) (merge c x y)
            · simp [hb] at hv
            · simp only [hb, cond_true, Option.some.injEq] at hv
              subst hv
              exact ⟨x, y, by simp [Tm.at, List.getD, h1], by simp [Tm.at, List.getD, h2], rfl, SV.okB_spec _ hb⟩
          · cases hv
    refine ⟨fun k hk => keepsB_spec hkeep k hk, fun ad a w ht hR => ?_, fun ad a w ht hR => ?_⟩
    · obtain ⟨hT, hM⟩ := hR
      refine ⟨⟨hT.defers, by simp [hT.size, hl], fun i v hv => ?_⟩, ⟨fun k ty cs hk => ?_, fun k k' h1 h2 e => ?_, hM.below⟩⟩
      · obtain ⟨x, y, h1, h2, rfl, h3⟩ := hsl i v hv
        exact ⟨by rw [merge_conc hk, ht]; exact (hT.slot i x h1).1, h3⟩
      · obtain ⟨cs1, cs2, h1, h2, h3, rfl⟩ := hat k ty cs hk
        obtain ⟨i1, i2, _⟩ := hM.cell k ty cs1 h1
        exact ⟨by rw [mergeL_conc ‹c.kind = .b› _ _ h3, ht]; exact i1, i2, okMem_spec hokm hk⟩
      · have up : ∀ k, al (prune (prune (prune (List.zipWith (mergeBlk c) s1.2 s2.2)))) k → al s1.2 k := fun k hk => by
          obtain ⟨⟨ty, cs⟩, hx⟩ := Option.isSome_iff_exists.1 hk
          obtain ⟨cs1, _, h1, _⟩ := hat k ty cs hx
          simp [al, h1]
        exact hM.inj k k' (up k h1) (up k' h2) e
    · obtain ⟨hT, hM⟩ := hR
      refine ⟨⟨hT.defers, by simp [hT.size, hl], fun i v hv => ?_⟩, ⟨fun k ty cs hk => ?_, fun k k' h1 h2 e => ?_, hM.below⟩⟩
      · obtain ⟨x, y, h1, h2, rfl, h3⟩ := hsl i v hv
        exact ⟨by rw [merge_conc hk, ht]; exact (hT.slot i y h2).1, h3⟩
      · obtain ⟨cs1, cs2, h1, h2, h3, rfl⟩ := hat k ty cs hk
        obtain ⟨i1, i2, _⟩ := hM.cell k ty cs2 h2
        exact ⟨by rw [mergeL_conc ‹c.kind = .b› _ _ h3, ht]; exact i1, i2, okMem_spec hokm hk⟩
      · have up : ∀ k, al (prune (prune (prune (List.zipWith (mergeBlk c) s1.2 s2.2)))) k → al s2.2 k := fun k hk => by
          obtain ⟨⟨ty, cs⟩, hx⟩ := Option.isSome_iff_exists.1 hk
          obtain ⟨_, cs2, _, h2, _⟩ := hat k ty cs hx
          simp [al, h2]
        exact hM.inj k k' (up k h1) (up k' h2) e
  · cases h

/-! ### states by the way out -/
def lk (l : Lab) : List (Lab × St) → Option St
  | [] => none
  | (l', s) :: r => if l' = l then some s else lk l r
def drop (l : Lab) : List (Lab × St) → List (Lab × St)
  | [] => []
  | (k, s) :: r => if k = l then drop l r else (k, s) :: drop l r
theorem lk_drop_other {l l' : Lab} (h : l ≠ l') : ∀ xs, lk l' (drop l xs) = lk l' xs
  | [] => rfl
  | (k, s) :: r => by
    have ih := lk_drop_other h r
    simp only [drop]
    by_cases hk : k = l
    · subst hk
      rw [if_pos rfl, ih]
      simp only [lk, if_neg h]
    · rw [if_neg hk]
      simp only [lk, ih]
theorem lk_drop_same (l : Lab) : ∀ xs, lk l (drop l xs) = none
  | [] => rfl
  | (k, s) :: r => by
    have ih := lk_drop_same l r
    simp only [drop]
    by_cases hk : k = l
    · rw [if_pos hk]; exact ih
    · rw [if_neg hk]; simp only [lk, if_neg hk]; exact ih

def mergeSts (m0 : Mem) (c : Lab → E) : List (Lab × St) → List (Lab × St) → Option (List (Lab × St))
  | [], ys => some ys
  | (l, s) :: r, ys => match lk l ys with
    | some s' => match mergeSt (c l) m0 s s', mergeSts m0 c r (drop l ys) with
      | some q, some t => some ((l, q) :: t)
      | _, _ => none
    | none => (mergeSts m0 c r ys).map ((l, s) :: ·)

theorem mergeSts_spec {m0 : Mem} {c : Lab → E} : ∀ {xs ys zs : List (Lab × St)}, mergeSts m0 c xs ys = some zs → ∀ l,
    (∀ s, lk l xs = some s → ∃ q, lk l zs = some q ∧ ((lk l ys = none ∧ q = s) ∨ ∃ s', lk l ys = some s' ∧ mergeSt (c l) m0 s s' = some q)) ∧
    (lk l xs = none → lk l zs = lk l ys)
  | [], ys, zs, h, l => by
    simp only [mergeSts, Option.some.injEq] at h; subst h
    exact ⟨fun s hs => by simp [lk] at hs, fun _ => rfl⟩
  | (l0, s0) :: r, ys, zs, h, l => by
    simp only [mergeSts] at h
    split at h
    · rename_i s' hs'
      split at h
      · rename_i q t hq ht
        simp only [Option.some.injEq] at h; subst h
        by_cases hl : l0 = l
        · subst hl
          refine ⟨fun s hs => ?_, fun hn => by simp [lk] at hn⟩
          simp only [lk, if_true, Option.some.injEq] at hs
          subst hs
          exact ⟨q, by simp [lk], Or.inr ⟨s', hs', hq⟩⟩
        · obtain ⟨i1, i2⟩ := mergeSts_spec ht l
          rw [lk_drop_other hl] at i1 i2
          simp only [lk, if_neg hl]
          exact ⟨i1, i2⟩
      · cases h
    · rename_i hs'
      obtain ⟨t, ht, rfl⟩ := Option.map_eq_some_iff.1 h
      obtain ⟨i1, i2⟩ := mergeSts_spec ht l
      by_cases hl : l0 = l
      · subst hl
        refine ⟨fun s hs => ?_, fun hn => by simp [lk] at hn⟩
        simp only [lk, if_true, Option.some.injEq] at hs
        subst hs
        exact ⟨s0, by simp [lk], Or.inl ⟨hs', rfl⟩⟩
      · simp only [lk, if_neg hl]
        exact ⟨i1, i2⟩

abbrev Out := DT × List (Lab × St)

def joinOut (m0 : Mem) (ox oy : Out) : Option Out :=
  (mergeSts m0 (fun l => ox.1.is l) (drop .nrm ox.2) oy.2).map fun z => (mkJoin ox.1 oy.1, z)
def brOut (m0 : Mem) (c : E) (ox oy : Out) : Option Out :=
  if c.kind = .b then (mergeSts m0 (fun _ => c) ox.2 oy.2).map fun z => (.br c ox.1 oy.1, z) else none
def relOut (m0 : Mem) (id : Nat) (o : Out) : Option Out :=
  match lk (.ex id) o.2, lk .nrm o.2 with
  | none, _ => some (mkRel id o.1, o.2)
  | some s, none => some (mkRel id o.1, (.nrm, s) :: drop (.ex id) o.2)
  | some s, some s' => match mergeSt (o.1.is (.ex id)) m0 s s' with
    | some q => some (mkRel id o.1, (.nrm, q) :: drop (.ex id) (drop .nrm o.2))
    | none => none

/-- What is asked behind a piece of code whose outcome is o. -/
def After (F : Fam) (ρ : Nat → Int) (w0 : World) (ad : Nat → Nat) (m : Mem) (o : Out) (Q : Exit → Act → World → Prop) : Prop :=
  ∀ q ad' a' w', lk (o.1.eval F ρ) o.2 = some q → RelS F ρ w0 ad' q a' w' → Ext ad ad' m q.2 → Q (o.1.eval F ρ).exit a' w'

theorem After.join {m0 : Mem} {ox oy o : Out} (h : joinOut m0 ox oy = some o) {Q : Exit → Act → World → Prop} (hA : After F ρ w0 ad m0 o Q) :
    (ox.1.eval F ρ ≠ .nrm → After F ρ w0 ad m0 ox Q) ∧ (ox.1.eval F ρ = .nrm → After F ρ w0 ad m0 oy Q) := by
  obtain ⟨z, hz, rfl⟩ := Option.map_eq_some_iff.1 h
  unfold After at *
  simp only [mkJoin_eval] at hA
  constructor
  · intro hne q ad' a' w' hq hR hx
    simp only [if_neg hne] at hA
    obtain ⟨i1, _⟩ := mergeSts_spec hz (ox.1.eval F ρ)
    obtain ⟨q', h1, h2⟩ := i1 q (by rw [lk_drop_other (Ne.symm hne)]; exact hq)
    rcases h2 with ⟨_, rfl⟩ | ⟨s', _, h3⟩
    · exact hA q' ad' a' w' h1 hR hx
    · obtain ⟨k1, k2, _⟩ := mergeSt_spec (F := F) (ρ := ρ) (w0 := w0) h3
      exact hA q' ad' a' w' h1 (k2 ad' a' w' (DT.is_true rfl) hR) ⟨hx.same, k1⟩
  · intro he q ad' a' w' hq hR hx
    simp only [if_pos he] at hA
    obtain ⟨i1, i2⟩ := mergeSts_spec hz (oy.1.eval F ρ)
    cases hlx : lk (oy.1.eval F ρ) (drop .nrm ox.2) with
    | none => exact hA q ad' a' w' (by rw [i2 hlx]; exact hq) hR hx
    | some s =>
      obtain ⟨q', h1, h2⟩ := i1 s hlx
      rcases h2 with ⟨h2, _⟩ | ⟨s', h2, h3⟩
      · rw [h2] at hq; cases hq
      · rw [h2] at hq
        simp only [Option.some.injEq] at hq
        subst hq
        obtain ⟨k1, _, k3⟩ := mergeSt_spec (F := F) (ρ := ρ) (w0 := w0) h3
        refine hA q' ad' a' w' h1 (k3 ad' a' w' (DT.is_false ?_) hR) ⟨hx.same, k1⟩
        rw [he]
        exact fun e => by rw [← e, lk_drop_same] at hlx; cases hlx

theorem After.br {m0 : Mem} {c : E} {ox oy o : Out} (h : brOut m0 c ox oy = some o) {Q : Exit → Act → World → Prop} (hA : After F ρ w0 ad m0 o Q) :
    (c.tt F ρ = true → After F ρ w0 ad m0 ox Q) ∧ (c.tt F ρ = false → After F ρ w0 ad m0 oy Q) := by
  unfold brOut at h
  split at h
  · obtain ⟨z, hz, rfl⟩ := Option.map_eq_some_iff.1 h
    unfold After at *
    simp only [DT.eval] at hA
    constructor
    · intro ht q ad' a' w' hq hR hx
      simp only [ht, cond_true] at hA
      obtain ⟨i1, _⟩ := mergeSts_spec hz (ox.1.eval F ρ)
      obtain ⟨q', h1, h2⟩ := i1 q hq
      rcases h2 with ⟨_, rfl⟩ | ⟨s', _, h3⟩
      · exact hA q' ad' a' w' h1 hR hx
      · obtain ⟨k1, k2, _⟩ := mergeSt_spec (F := F) (ρ := ρ) (w0 := w0) h3
        exact hA q' ad' a' w' h1 (k2 ad' a' w' ht hR) ⟨hx.same, k1⟩
    · intro ht q ad' a' w' hq hR hx
      simp only [ht, cond_false] at hA
      obtain ⟨i1, i2⟩ := mergeSts_spec hz (oy.1.eval F ρ)
      cases hlx : lk (oy.1.eval F ρ) ox.2 with
      | none => exact hA q ad' a' w' (by rw [i2 hlx]; exact hq) hR hx
      | some s =>
        obtain ⟨q', h1, h2⟩ := i1 s hlx
        rcases h2 with ⟨h2, _⟩ | ⟨s', h2, h3⟩
        · rw [h2] at hq; cases hq
        · rw [h2] at hq
          simp only [Option.some.injEq] at hq
          subst hq
          obtain ⟨k1, _, k3⟩ := mergeSt_spec (F := F) (ρ := ρ) (w0 := w0) h3
          exact hA q' ad' a' w' h1 (k3 ad' a' w' ht hR) ⟨hx.same, k1⟩
  · cases h

theorem inBlock_ne {id : Nat} {l : Lab} (h : l ≠ .ex id) {Q : Exit → Act → World → Prop} {a : Act} {w : World} (hq : Q l.exit a w) : Exit.inBlock id Q l.exit a w := by
  cases l with
  | nrm => exact hq
  | ret => exact hq
  | ex k =>
    have : k ≠ id := fun e => h (by rw [e])
    simp only [Lab.exit, Exit.inBlock, if_neg this]
    exact hq

theorem After.rel {m0 : Mem} {id : Nat} {o' o : Out} (h : relOut m0 id o' = some o) {Q : Exit → Act → World → Prop} (hA : After F ρ w0 ad m0 o Q) : After F ρ w0 ad m0 o' (Exit.inBlock id Q) := by
  unfold relOut at h
  intro q ad' a' w' hq hR hx
  unfold After at hA
  split at h
  · rename_i h1
    simp only [Option.some.injEq] at h; subst h
    simp only [mkRel_eval] at hA
    have hne : o'.1.eval F ρ ≠ .ex id := fun e => by rw [e, h1] at hq; cases hq
    simp only [if_neg hne] at hA
    exact inBlock_ne hne (hA q ad' a' w' hq hR hx)
  · rename_i s h1 h2
    simp only [Option.some.injEq] at h; subst h
    simp only [mkRel_eval] at hA
    by_cases he : o'.1.eval F ρ = .ex id
    · simp only [if_pos he] at hA
      rw [he] at hq ⊢
      rw [h1] at hq
      simp only [Option.some.injEq] at hq
      subst hq
      simp only [Lab.exit, Exit.inBlock, if_true]
      exact hA s ad' a' w' (by simp [lk]) hR hx
    · simp only [if_neg he] at hA
      have hnn : o'.1.eval F ρ ≠ .nrm := fun e => by rw [e, h2] at hq; cases hq
      refine inBlock_ne he (hA q ad' a' w' ?_ hR hx)
      simp only [lk, if_neg (Ne.symm hnn)]
      rw [lk_drop_other (Ne.symm he)]
      exact hq
  · rename_i s s' h1 h2
    split at h
    · rename_i q0 h3
      simp only [Option.some.injEq] at h; subst h
      simp only [mkRel_eval] at hA
      obtain ⟨k1, k2, k3⟩ := mergeSt_spec (F := F) (ρ := ρ) (w0 := w0) h3
      by_cases he : o'.1.eval F ρ = .ex id
      · simp only [if_pos he] at hA
        rw [he] at hq ⊢
        rw [h1] at hq
        simp only [Option.some.injEq] at hq
        subst hq
        simp only [Lab.exit, Exit.inBlock, if_true]
        exact hA q0 ad' a' w' (by simp [lk]) (k2 ad' a' w' (DT.is_true he) hR) ⟨hx.same, k1⟩
      · simp only [if_neg he] at hA
        by_cases hn : o'.1.eval F ρ = .nrm
        · rw [hn] at hq hA ⊢
          rw [h2] at hq
          simp only [Option.some.injEq] at hq
          subst hq
          exact hA q0 ad' a' w' (by simp [lk]) (k3 ad' a' w' (DT.is_false (by rw [hn]; exact fun e => by cases e)) hR) ⟨hx.same, k1⟩
        · refine inBlock_ne he (hA q ad' a' w' ?_ hR hx)
          simp only [lk, if_neg (Ne.symm hn)]
          rw [lk_drop_other (Ne.symm he), lk_drop_other (Ne.symm hn)]
          exact hq
    · cases h
end
end Go.Proofs.YtbolcnlenmphhaaDoor.Ev
