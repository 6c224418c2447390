/- The memory of named blocks; that a descriptor's effect on it is the operation's effect on the world. -/
import Derived.Test.YtbolcnlenmphhaaDoorEvE
set_option linter.unusedVariables false
set_option linter.unusedSimpArgs false
namespace Go.Proofs.YtbolcnlenmphhaaDoor.Ev
open Go Go.RowKit

/-- The call's own blocks, by name: the element type and the cells; none: not made yet, or forgotten. -/
abbrev Mem := List (Option (Nat × List SV))
def Mem.at (m : Mem) (n : Nat) : Option (Nat × List SV) := m.getD n none
def al (m : Mem) (n : Nat) : Prop := (m.at n).isSome = true
/-- What the variables that were there before hold. -/
abbrev Glob := Nat → Nat → Option SV

theorem Mem.at_lt {m : Mem} {n : Nat} {x} (h : m.at n = some x) : n < m.length := by
  unfold Mem.at at h
  rcases Nat.lt_or_ge n m.length with h' | h'
  · exact h'
  · simp [List.getD, List.getElem?_eq_none h'] at h
theorem Mem.at_set_same {m : Mem} {n : Nat} (h : n < m.length) (x : Option (Nat × List SV)) : Mem.at (List.set m n x) n = x := by
  simp [Mem.at, List.getD, h]
theorem Mem.at_set_other {m : Mem} {n k : Nat} (h : n ≠ k) (x : Option (Nat × List SV)) : Mem.at (List.set m n x) k = m.at k := by
  simp [Mem.at, List.getD, List.getElem?_set, h]

def rdM (m : Mem) (n off sz : Nat) (ag : Bool) : Option SV :=
  match m.at n with
  | some (_, cs) => bif ag then (if off + sz ≤ cs.length then some (.agg ((cs.drop off).take sz)) else none) else cs[off]?
  | none => none
def rdsM (m : Mem) (n off str sz : Nat) (ag : Bool) : Nat → Nat → Option (List SV)
  | 0, _ => some []
  | c + 1, j => match rdM m n (off + j * str) sz ag, rdsM m n off str sz ag c (j + 1) with
    | some v, some l => some (v :: l)
    | _, _ => none
def wrM (m : Mem) (n off : Nat) (cs : List SV) : Option Mem :=
  match m.at n with
  | some (ty, old) => if off + cs.length ≤ old.length then some (m.set n (some (ty, splice old off cs))) else none
  | none => none
def wrsM (e : E) (n off str : Nat) (cs : List SV) : Nat → Nat → Mem → Option Mem
  | 0, _, m => some m
  | c + 1, j, m => match m.at n with
    | some (ty, old) => if off + j * str + cs.length ≤ old.length then
        wrsM e n off str cs c (j + 1) (m.set n (some (ty, splice old (off + j * str) (mergeL (mkCmp .eql e (.lit (.i .i64) j)) cs ((old.drop (off + j * str)).take cs.length)))))
      else none
    | none => none
def rdG (G : Glob) (b : Nat) : Nat → Nat → Option (List SV)
  | _, 0 => some []
  | off, n + 1 => match G b off, rdG G b (off + 1) n with
    | some v, some l => some (v :: l)
    | _, _ => none

def apply (G : Glob) (m : Mem) (nm : Nat) : D → Option (SV × Mem)
  | .val v => some (v, m)
  | .ld n off sz ag => (rdM m n off sz ag).map fun v => (v, m)
  | .ldi n off str cnt e sz ag => if cnt < 100000 then (rdsM m n off str sz ag cnt 0).map fun l => (sel e 0 l, m) else none
  | .ldg b off sz ag => bif ag then (rdG G b off sz).map fun l => (.agg l, m) else (G b off).map fun v => (v, m)
  | .st n off cs => (wrM m n off cs).map fun m' => (.und, m')
  | .sti n off str cnt e cs => if cnt < 100000 then (wrsM e n off str cs cnt 0 m).map fun m' => (.und, m') else none
  | .new ty cs sl => if nm < m.length ∧ (m.at nm).isNone = true then some (match sl with | none => .ptr nm 0 | some len => .sl nm 0 len len, m.set nm (some (ty, cs))) else none
  | .call .. => none

structure Rel (F : Fam) (ρ : Nat → Int) (w0 : World) (ad : Nat → Nat) (m : Mem) (w : World) : Prop where
  cell : ∀ n ty cs, m.at n = some (ty, cs) → w.heap[ad n]? = some (.cells (SV.concL F ρ ad cs).toArray ty (0, 0)) ∧ w0.heap.size ≤ ad n ∧ SV.okL (al m) cs
  inj : ∀ n k, al m n → al m k → ad n = ad k → n = k
  below : Below w0.heap.size w0 w

def GOK (G : Glob) (w0 : World) : Prop :=
  ∀ (F : Fam) (ρ : Nat → Int) b off v, G b off = some v → b < w0.heap.size ∧ w0.cell? ⟨b, off, none⟩ = some (v.conc F ρ (fun n => n)) ∧ v.ok (fun _ => False)

section
variable {P : Program} {F : Fam} {ρ : Nat → Int} {G : Glob} {w0 w : World} {ad : Nat → Nat} {m : Mem}

theorem GOK.below (h : GOK G w0) (hb : Below w0.heap.size w0 w) : GOK G w := fun F ρ b off v hv => by
  obtain ⟨h1, h2, h3⟩ := h F ρ b off v hv
  exact ⟨Nat.lt_of_lt_of_le h1 hb.size, (hb.cell (p := ⟨b, off, none⟩) h1).trans h2, h3⟩

theorem cell_of_heap {b : Nat} {c : Array Value} {t : TypeId} {fr : Nat × Nat} (h : w.heap[b]? = some (.cells c t fr)) (o : Nat) : w.cell? ⟨b, o, none⟩ = c[o]? := by
  simp [World.cell?, h]

theorem Rel.ok (h : Rel F ρ w0 ad m w) {n ty cs} (hn : m.at n = some (ty, cs)) : al m n := by simp [al, hn]

theorem ldSem_agg {b off : Nat} {cs : List Value} (h : ∀ j v, cs[j]? = some v → w.cell? ⟨b, off + j, none⟩ = some v) : ldSem P w b off cs.length true = .ok (.value (.agg cs.toArray)) w := by
  have := run_loadCells_list (P := P) w ⟨b, off, none⟩ cs (fun j v hj => by rw [Addr.add_none]; exact h j v hj)
  simp [ldSem, this]
theorem ldSem_one {b off : Nat} {v : Value} (sz : Nat) (h : w.cell? ⟨b, off, none⟩ = some v) : ldSem P w b off sz false = .ok (.value v) w := by
  simp [ldSem, h]

theorem rdM_run (hR : Rel F ρ w0 ad m w) {n off sz : Nat} {ag : Bool} {v : SV} (h : rdM m n off sz ag = some v) :
    ldSem P w (ad n) off sz ag = .ok (.value (v.conc F ρ ad)) w ∧ v.ok (al m) := by
  unfold rdM at h
  split at h
  · rename_i ty cs hn
    obtain ⟨hh, _, hok⟩ := hR.cell n ty cs hn
    cases ag with
    | true =>
      simp only [cond_true] at h
      split at h
      · rename_i hl
        simp only [Option.some.injEq] at h; subst h
        have hlen : ((SV.concL F ρ ad cs).drop off |>.take sz).length = sz := by rw [concL_eq]; simp; omega
        have hr := ldSem_agg (P := P) (w := w) (b := ad n) (off := off) (cs := (SV.concL F ρ ad cs).drop off |>.take sz) (fun j v hj => by
          rw [cell_of_heap hh]
          rw [List.getElem?_take] at hj
          split at hj
          · rw [List.getElem?_drop] at hj; simpa using hj
          · cases hj)
        rw [hlen] at hr
        refine ⟨?_, ?_⟩
        · rw [hr]
          simp only [SV.conc, concL_eq, List.map_take, List.map_drop]
        · simp only [SV.ok]; exact okL_take (okL_drop hok _) _
      · cases h
    | false =>
      simp only [cond_false] at h
      refine ⟨ldSem_one sz ?_, okL_get hok h⟩
      rw [cell_of_heap hh, concL_eq]
      simp [h]
  · cases h

theorem rdsM_spec {n off str sz : Nat} {ag : Bool} : ∀ {c j : Nat} {l : List SV}, rdsM m n off str sz ag c j = some l → l.length = c ∧ ∀ i v, l[i]? = some v → rdM m n (off + (j + i) * str) sz ag = some v
  | 0, j, l, h => by simp [rdsM] at h; subst h; simp
  | c + 1, j, l, h => by
    simp only [rdsM] at h
    split at h
    · rename_i v r h1 h2
      simp only [Option.some.injEq] at h; subst h
      obtain ⟨i1, i2⟩ := rdsM_spec h2
      refine ⟨by simp [i1], fun i u hu => ?_⟩
      cases i with
      | zero => simp at hu; subst hu; exact h1
      | succ i => simp at hu; have := i2 i u hu; rwa [show j + 1 + i = j + (i + 1) by omega] at this
    · cases h

theorem rdG_spec (hG : GOK G w0) (hb : Below w0.heap.size w0 w) {b : Nat} : ∀ {n off : Nat} {l : List SV}, rdG G b off n = some l → l.length = n ∧ SV.okL (al m) l ∧
    (∀ j v, (SV.concL F ρ ad l)[j]? = some v → w.cell? ⟨b, off + j, none⟩ = some v)
  | 0, off, l, h => by simp [rdG] at h; subst h; exact ⟨rfl, trivial, by simp [SV.concL]⟩
  | n + 1, off, l, h => by
    simp only [rdG] at h
    split at h
    · rename_i v r h1 h2
      simp only [Option.some.injEq] at h; subst h
      obtain ⟨i1, i2, i3⟩ := rdG_spec hG hb h2
      obtain ⟨g1, g2, g3⟩ := hG F ρ b off v h1
      refine ⟨by simp [i1], ⟨SV.ok_mono (fun _ f => f.elim) v g3, i2⟩, fun j u hu => ?_⟩
      cases j with
      | zero =>
        simp only [SV.concL, List.getElem?_cons_zero, Option.some.injEq] at hu
        subst hu
        rw [Nat.add_zero, hb.cell g1, g2, SV.conc_congr (ad' := ad) (p := fun _ => False) (fun _ f => f.elim) v g3]
      | succ j =>
        simp only [SV.concL, List.getElem?_cons_succ] at hu
        have := i3 j u hu
        rwa [show off + 1 + j = off + (j + 1) by omega] at this
    · cases h

theorem Below.setRow {w0 w : World} (h : Below w0.heap.size w0 w) {g : Nat} (hg : w0.heap.size ≤ g) (cs : Array Value) : Below w0.heap.size w0 (w.setRow g cs) :=
  h.trans ⟨rfl, rfl, rfl, by simp, fun k hk => setRow_other w g k cs (by omega)⟩

theorem al_set {m : Mem} {n : Nat} {x y} (h : m.at n = some x) (k : Nat) : al (m.set n (some y)) k ↔ al m k := by
  have hl := Mem.at_lt h
  by_cases hk : n = k
  · subst hk; simp [al, Mem.at_set_same hl, h]
  · simp [al, Mem.at_set_other hk]
theorem al_set_new {m : Mem} {n : Nat} {y} (h : n < m.length) (k : Nat) : al m k → al (m.set n (some y)) k := by
  intro hk
  by_cases he : n = k
  · subst he; simp [al, Mem.at_set_same h]
  · simpa [al, Mem.at_set_other he] using hk

/-- A block's cells are replaced by others, in the memory and in the world. -/
theorem Rel.set (hR : Rel F ρ w0 ad m w) {n : Nat} {ty : Nat} {old new : List SV} (hn : m.at n = some (ty, old)) (hok : SV.okL (al m) new) :
    Rel F ρ w0 ad (m.set n (some (ty, new))) (w.setRow (ad n) (SV.concL F ρ ad new).toArray) := by
  obtain ⟨hh, hB, _⟩ := hR.cell n ty old hn
  have hl := Mem.at_lt hn
  refine ⟨fun k ty' cs hk => ?_, fun k k' h1 h2 e => hR.inj k k' ((al_set hn k).1 h1) ((al_set hn k').1 h2) e, Below.setRow hR.below hB _⟩
  have hmono : ∀ k, al m k → al (m.set n (some (ty, new))) k := fun k h => (al_set hn k).2 h
  by_cases hk' : n = k
  · subst hk'
    rw [Mem.at_set_same hl] at hk
    simp only [Option.some.injEq, Prod.mk.injEq] at hk
    obtain ⟨rfl, rfl⟩ := hk
    exact ⟨setRow_heap w _ _ _ _ _ hh, hB, SV.okL_mono hmono _ hok⟩
  · rw [Mem.at_set_other hk'] at hk
    obtain ⟨i1, i2, i3⟩ := hR.cell k ty' cs hk
    refine ⟨?_, i2, SV.okL_mono hmono _ i3⟩
    rw [setRow_other _ _ _ _ (fun e => hk' (hR.inj n k (hR.ok hn) (hR.ok hk) e.symm))]
    exact i1

theorem stSem_run {b off : Nat} {c : Array Value} {ty : TypeId} {vs : List Value} (h : w.heap[b]? = some (.cells c ty (0, 0))) (hl : off + vs.length ≤ c.size) (h1 : ∀ v ∈ vs, v.oneCell' = true) :
    stSem P w b off vs = .ok .skip (w.setRow b (c.toList.take off ++ vs ++ c.toList.drop (off + vs.length)).toArray) := by
  have := run_storeCells_at P b off ty vs 0 c w h (by simpa using hl) h1
  simp [stSem, this]

theorem concL_splice (cs vs : List SV) (off : Nat) : SV.concL F ρ ad (splice cs off vs) = (SV.concL F ρ ad cs).take off ++ SV.concL F ρ ad vs ++ (SV.concL F ρ ad cs).drop (off + (SV.concL F ρ ad vs).length) := by
  simp [splice, concL_eq, List.map_take, List.map_drop]

theorem ones_conc {cs : List SV} (h : cs.all SV.one = true) : ∀ v ∈ SV.concL F ρ ad cs, v.oneCell' = true := by
  intro v hv
  rw [concL_eq] at hv
  obtain ⟨s, hs, rfl⟩ := List.mem_map.1 hv
  exact SV.one_conc (List.all_eq_true.1 h s hs)

theorem wrM_run (hR : Rel F ρ w0 ad m w) {n off : Nat} {cs : List SV} {m' : Mem} (h : wrM m n off cs = some m') (hok : SV.okL (al m) cs) (h1 : cs.all SV.one = true) :
    ∃ w', stSem P w (ad n) off (SV.concL F ρ ad cs) = .ok .skip w' ∧ Rel F ρ w0 ad m' w' ∧ (∀ k, al m k → al m' k) := by
  unfold wrM at h
  split at h
  · rename_i ty old hn
    split at h
    · rename_i hl
      simp only [Option.some.injEq] at h; subst h
      obtain ⟨hh, hB, hoo⟩ := hR.cell n ty old hn
      have hs := stSem_run (P := P) (off := off) (vs := SV.concL F ρ ad cs) hh (by simp only [concL_eq, List.size_toArray, List.length_map]; exact hl) (ones_conc h1)
      refine ⟨_, hs, ?_, fun k hk => (al_set hn k).2 hk⟩
      have := hR.set hn (splice_ok hoo hok (off := off))
      rw [concL_splice] at this
      exact this
    · cases h
  · cases h

theorem splice_self (l : List SV) (off n : Nat) (h : off + n ≤ l.length) : splice l off ((l.drop off).take n) = l := by
  unfold splice
  have e : ((l.drop off).take n).length = n := by simp; omega
  rw [e, List.append_assoc, ← List.drop_drop, List.take_append_drop, List.take_append_drop]

theorem setRow_same {b : Nat} {c : Array Value} {ty : TypeId} (h : w.heap[b]? = some (.cells c ty (0, 0))) : w.setRow b c = w := setRow_self w b c ty (0, 0) h

/-- Writing at an index that is a number in bounds: of all the places only one turns. -/
theorem wrsM_run {e : E} {n off str : Nat} {cs : List SV} (hok : ∀ m : Mem, (∀ k, al m k → True) → True) (h1 : cs.all SV.one = true) : ∀ (c j : Nat) (m m' : Mem) (w : World), j + c < 1000000 → Rel F ρ w0 ad m w → SV.okL (al m) cs →
    wrsM e n off str cs c j m = some m' →
    (∀ k, al m k → al m' k) ∧
    ((e.den F ρ < j ∨ ((j : Int) + c ≤ e.den F ρ)) → Rel F ρ w0 ad m' w) ∧
    ((j : Int) ≤ e.den F ρ → e.den F ρ < j + c → ∃ w', stSem P w (ad n) (off + (e.den F ρ).toNat * str) (SV.concL F ρ ad cs) = .ok .skip w' ∧ Rel F ρ w0 ad m' w')
  | 0, j, m, m', w, hj, hR, hc, h => by
    simp only [wrsM, Option.some.injEq] at h; subst h
    exact ⟨fun _ h => h, fun _ => hR, fun h1 h2 => by simp at h2; omega⟩
  | c + 1, j, m, m', w, hj, hR, hc, h => by
    simp only [wrsM] at h
    split at h
    · rename_i ty old hn
      split at h
      · rename_i hl
        obtain ⟨hh, hB, hoo⟩ := hR.cell n ty old hn
        have hcmp := mkCmp_spec .eql e (.lit (.i .i64) (j : Int)) F ρ
        have hjd : (E.lit (.i .i64) (j : Int)).den F ρ = j := by
          simp only [E.den, K.norm, IntKind.wrap, IntKind.signed, IntKind.bits]
          simp
          split <;> omega
        rw [hjd] at hcmp
        have hlen : cs.length = ((old.drop (off + j * str)).take cs.length).length := by simp; omega
        have hmc := mergeL_conc (F := F) (ρ := ρ) (ad := ad) hcmp.2 cs ((old.drop (off + j * str)).take cs.length) hlen
        have hmok := mergeL_ok (c := mkCmp .eql e (.lit (.i .i64) (j : Int))) cs ((old.drop (off + j * str)).take cs.length) hc (okL_take (okL_drop hoo _) _)
        have hset := hR.set hn (splice_ok hoo hmok (off := off + j * str))
        rw [concL_splice, hmc, hcmp.1] at hset
        have hal : ∀ k, al m k → al (m.set n (some (ty, splice old (off + j * str) (mergeL (mkCmp .eql e (.lit (.i .i64) (j : Int))) cs ((old.drop (off + j * str)).take cs.length))))) k := fun k hk => (al_set hn k).2 hk
        by_cases he : e.den F ρ = j
        · have ht : cmpB .eql (e.den F ρ) (j : Int) = true := by simp [cmpB, he]
          rw [ht] at hset
          simp only [cond_true] at hset
          have hst := stSem_run (P := P) (off := off + j * str) (vs := SV.concL F ρ ad cs) hh (by simp only [concL_eq, List.size_toArray, List.length_map]; exact hl) (ones_conc h1)
          obtain ⟨i1, i2, _⟩ := wrsM_run hok h1 c (j + 1) _ m' _ (by omega) hset (SV.okL_mono hal _ hc) h
          refine ⟨fun k hk => i1 k (hal k hk), fun hx => by exfalso; simp at hx; omega, fun _ _ => ?_⟩
          refine ⟨_, ?_, i2 (Or.inl (by rw [he]; push_cast; omega))⟩
          rw [he]
          simpa using hst
        · have ht : cmpB .eql (e.den F ρ) (j : Int) = false := by simp [cmpB, he]
          rw [ht] at hset
          simp only [cond_false] at hset
          rw [← concL_splice, splice_self old _ _ hl, setRow_same hh] at hset
          obtain ⟨i1, i2, i3⟩ := wrsM_run hok h1 c (j + 1) _ m' _ (by omega) hset (SV.okL_mono hal _ hc) h
          refine ⟨fun k hk => i1 k (hal k hk), fun hx => i2 ?_, fun h1 h2 => i3 (by push_cast; omega) (by push_cast at h2 ⊢; omega)⟩
          rcases hx with hx | hx
          · left; push_cast; omega
          · right; push_cast at hx ⊢; omega
      · cases h
    · cases h

theorem Rel.alloc (hR : Rel F ρ w0 ad m w) {nm : Nat} (h1 : nm < m.length) (h2 : (m.at nm).isNone = true) {ty : Nat} {cs : List SV} (hok : SV.okL (al m) cs) :
    Rel F ρ w0 (fun n => if n = nm then w.heap.size else ad n) (m.set nm (some (ty, cs))) (w.alloc (.cells (SV.concL F ρ ad cs).toArray ty)) := by
  have hne : ∀ k, al m k → (if k = nm then w.heap.size else ad k) = ad k := fun k hk => by
    rw [if_neg]
    rintro rfl
    simp [al] at hk
    rw [Option.isNone_iff_eq_none] at h2
    rw [h2] at hk
    cases hk
  have hlt : ∀ k, al m k → ad k < w.heap.size := fun k hk => by
    obtain ⟨⟨ty', cs'⟩, hk'⟩ := Option.isSome_iff_exists.1 hk
    have := (hR.cell k ty' cs' hk').1
    rcases Nat.lt_or_ge (ad k) w.heap.size with h | h
    · exact h
    · rw [Array.getElem?_eq_none h] at this; cases this
  have hcase : ∀ k, al (m.set nm (some (ty, cs))) k → k = nm ∨ al m k := fun k hk => by
    by_cases he : nm = k
    · exact Or.inl he.symm
    · right; simpa [al, Mem.at_set_other he] using hk
  have hcongr : ∀ l : List SV, SV.okL (al m) l → SV.concL F ρ ad l = SV.concL F ρ (fun n => if n = nm then w.heap.size else ad n) l := fun l hl => SV.concL_congr (fun k hk => (hne k hk).symm) l hl
  refine ⟨fun k ty' cs' hk => ?_, fun k k' a b e => ?_, hR.below.alloc hR.below.size _⟩
  · by_cases he : nm = k
    · subst he
      rw [Mem.at_set_same h1] at hk
      simp only [Option.some.injEq, Prod.mk.injEq] at hk
      obtain ⟨rfl, rfl⟩ := hk
      refine ⟨?_, ?_, SV.okL_mono (al_set_new h1) _ hok⟩
      · simp only [if_true]
        rw [← hcongr cs hok]
        exact (MapKept.heap_alloc w _).1
      · simp only [if_true]; exact hR.below.size
    · rw [Mem.at_set_other he] at hk
      obtain ⟨i1, i2, i3⟩ := hR.cell k ty' cs' hk
      have hk' : al m k := hR.ok hk
      simp only [hne k hk']
      refine ⟨?_, i2, SV.okL_mono (al_set_new h1) _ i3⟩
      rw [← hcongr cs' i3, Below.heap_alloc _ _ _ (hlt k hk')]
      exact i1
  · rcases hcase k a with rfl | ha <;> rcases hcase k' b with rfl | hb
    · rfl
    · simp only [if_true, hne k' hb] at e; have := hlt k' hb; omega
    · simp only [if_true, hne k ha] at e; have := hlt k ha; omega
    · simp only [hne k ha, hne k' hb] at e; exact hR.inj k k' ha hb e

/-- What an operation's run comes to: a value, or nothing ('undef'). -/
def Came (r : Result Next) (v : Value) (w' : World) : Prop := r = .ok (.value v) w' ∨ (r = .ok .skip w' ∧ v = undef)

theorem apply_sound (hG : GOK G w0) (hR : Rel F ρ w0 ad m w) {d : D} {nm : Nat} {v : SV} {m' : Mem} (hg : d.good F ρ (al m)) (h : apply G m nm d = some (v, m')) :
    ∃ ad' w', Came (d.run P F ρ ad w) (v.conc F ρ ad') w' ∧ Rel F ρ w0 ad' m' w' ∧ (∀ k, al m k → ad k = ad' k) ∧ (∀ k, al m k → al m' k) ∧ v.ok (al m') := by
  cases d with
  | val u =>
    simp only [apply, Option.some.injEq, Prod.mk.injEq] at h
    obtain ⟨rfl, rfl⟩ := h
    exact ⟨ad, w, Or.inl rfl, hR, fun _ _ => rfl, fun _ h => h, hg⟩
  | ld n off sz ag =>
    obtain ⟨u, h1, h2⟩ := Option.map_eq_some_iff.1 h
    simp only [Prod.mk.injEq] at h2
    obtain ⟨rfl, rfl⟩ := h2
    obtain ⟨i1, i2⟩ := rdM_run (P := P) hR h1
    exact ⟨ad, w, Or.inl i1, hR, fun _ _ => rfl, fun _ h => h, i2⟩
  | ldi n off str cnt e sz ag =>
    simp only [apply] at h
    split at h
    · rename_i hcnt
      obtain ⟨l, h1, h2⟩ := Option.map_eq_some_iff.1 h
      simp only [Prod.mk.injEq] at h2
      obtain ⟨rfl, rfl⟩ := h2
      obtain ⟨p1, p2⟩ := rdsM_spec h1
      obtain ⟨g1, g2, g3⟩ := hg
      obtain ⟨u, s1, s2⟩ := sel_conc (F := F) (ρ := ρ) (ad := ad) (e := e) l 0 (by omega) (by simpa using g3) (by rw [p1]; omega)
      have hr := p2 _ _ s1
      simp only [Nat.zero_add, Nat.sub_zero] at hr
      obtain ⟨i1, i2⟩ := rdM_run (P := P) hR hr
      refine ⟨ad, w, Or.inl ?_, hR, fun _ _ => rfl, fun _ h => h, ?_⟩
      · rw [s2]; exact i1
      · refine sel_ok _ _ ?_
        rw [okL_iff]
        intro x hx
        obtain ⟨i, hi⟩ := List.getElem?_of_mem hx
        exact (rdM_run (P := P) hR (p2 i x hi)).2
    · cases h
  | ldg b off sz ag =>
    cases ag with
    | true =>
      simp only [apply, cond_true] at h
      obtain ⟨l, h1, h2⟩ := Option.map_eq_some_iff.1 h
      simp only [Prod.mk.injEq] at h2
      obtain ⟨rfl, rfl⟩ := h2
      obtain ⟨i1, i2, i3⟩ := rdG_spec (m := m) (ad := ad) hG hR.below h1
      refine ⟨ad, w, Or.inl ?_, hR, fun _ _ => rfl, fun _ h => h, by simpa [SV.ok] using i2⟩
      have := ldSem_agg (P := P) (w := w) (b := b) (off := off) (cs := SV.concL F ρ ad l) i3
      have hl : (SV.concL F ρ ad l).length = sz := by rw [concL_eq]; simpa using i1
      rw [hl] at this
      exact this
    | false =>
      simp only [apply, cond_false] at h
      obtain ⟨u, h1, h2⟩ := Option.map_eq_some_iff.1 h
      simp only [Prod.mk.injEq] at h2
      obtain ⟨rfl, rfl⟩ := h2
      obtain ⟨g1, g2, g3⟩ := hG F ρ b off u h1
      refine ⟨ad, w, Or.inl ?_, hR, fun _ _ => rfl, fun _ h => h, SV.ok_mono (fun _ f => f.elim) u g3⟩
      refine ldSem_one sz ?_
      rw [hR.below.cell g1, g2, SV.conc_congr (ad' := ad) (p := fun _ => False) (fun _ f => f.elim) u g3]
  | st n off cs =>
    obtain ⟨m1, h1, h2⟩ := Option.map_eq_some_iff.1 h
    simp only [Prod.mk.injEq] at h2
    obtain ⟨rfl, rfl⟩ := h2
    obtain ⟨w', i1, i2, i3⟩ := wrM_run (P := P) hR h1 hg.2.1 hg.2.2
    exact ⟨ad, w', Or.inr ⟨i1, rfl⟩, i2, fun _ _ => rfl, i3, trivial⟩
  | sti n off str cnt e cs =>
    simp only [apply] at h
    split at h
    · rename_i hcnt
      obtain ⟨m1, h1, h2⟩ := Option.map_eq_some_iff.1 h
      simp only [Prod.mk.injEq] at h2
      obtain ⟨rfl, rfl⟩ := h2
      obtain ⟨g1, g2, g3, g4, g5⟩ := hg
      obtain ⟨i1, _, i3⟩ := wrsM_run (P := P) (fun _ _ => trivial) g3 cnt 0 m m1 w (by omega) hR g2 h1
      obtain ⟨w', j1, j2⟩ := i3 (by simpa using g5) (by omega)
      exact ⟨ad, w', Or.inr ⟨j1, rfl⟩, j2, fun _ _ => rfl, i1, trivial⟩
    · cases h
  | new ty cs sl =>
    simp only [apply] at h
    split at h
    · rename_i hc
      simp only [Option.some.injEq, Prod.mk.injEq] at h
      obtain ⟨rfl, rfl⟩ := h
      have hr := hR.alloc hc.1 hc.2 hg.1 (ty := ty)
      refine ⟨_, _, Or.inl ?_, hr, fun k hk => ?_, fun k hk => al_set_new hc.1 k hk, ?_⟩
      · cases sl <;> simp [D.run, SV.conc]
      · rw [if_neg]
        rintro rfl
        have h2 := hc.2
        rw [Option.isNone_iff_eq_none] at h2
        simp [al, h2] at hk
      · cases sl <;> simp [SV.ok, al, Mem.at_set_same hc.1]
    · cases h
  | call f args => simp [apply] at h
end
end Go.Proofs.YtbolcnlenmphhaaDoor.Ev
