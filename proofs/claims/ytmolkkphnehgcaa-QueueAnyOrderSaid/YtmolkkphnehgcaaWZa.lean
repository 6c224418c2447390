/- A call that only reads the lists that it is handed, whosever they are: each list is taken for a shared one while the call lasts. -/
import Derived.Test.YtmolkkphnehgcaaWZ
set_option linter.unusedVariables false
set_option linter.unusedSimpArgs false
namespace Go.Proofs.Ytmolkkphnehgcaa.Ew
open Go Go.RowKit

mutual
def allN : SV → List Nat
  | .ptr n _ | .pi n _ _ _ | .sl n _ _ _ | .ls n _ | .sv n _ _ _ _ | .pe n _ _ _ | .mp n | .oq n => [n]
  | .fn _ cs | .agg cs | .tup cs => allNL cs
  | .gd _ v => allN v
  | .ite _ a b => allN a ++ allN b
  | _ => []
def allNL : List SV → List Nat
  | [] => []
  | v :: r => allN v ++ allNL r
end
mutual
theorem allN_ok {p : Nat → Prop} : ∀ v : SV, (∀ n ∈ allN v, p n) → v.ok p
  | .ptr n _, h | .pi n _ _ _, h | .sl n _ _ _, h | .ls n _, h | .sv n _ _ _ _, h | .pe n _ _ _, h | .mp n, h | .oq n, h => h n (by simp [allN])
  | .fn _ cs, h | .agg cs, h | .tup cs, h => allNL_ok cs h
  | .gd _ v, h => allN_ok v h
  | .ite _ a b, h => ⟨allN_ok a fun n hn => h n (by simp only [allN]; exact List.mem_append_left _ hn), allN_ok b fun n hn => h n (by simp only [allN]; exact List.mem_append_right _ hn)⟩
  | .sc _, _ | .und, _ | .nilp _, _ | .gl _ _, _ => by simp [SV.ok]
theorem allNL_ok {p : Nat → Prop} : ∀ l : List SV, (∀ n ∈ allNL l, p n) → SV.okL p l
  | [], _ => trivial
  | v :: r, h => ⟨allN_ok v fun n hn => h n (by simp only [allNL]; exact List.mem_append_left _ hn), allNL_ok r fun n hn => h n (by simp only [allNL]; exact List.mem_append_right _ hn)⟩
end


def virtB : Blk → Blk
  | .lst ty row _ le c => .lst ty row false le c
  | _ => .dead
def virt (m : Mem) : Mem := m.map fun x => x.map fun y => (y.1, virtB y.2)
theorem virt_at (m : Mem) (n : Nat) : (virt m).at n = (m.at n).map fun y => (y.1, virtB y.2) := by
  unfold virt Mem.at
  by_cases h : n < m.length
  · simp [List.getD, h]
  · simp [List.getD, List.getElem?_eq_none (show m.length ≤ n by omega)]
theorem virt_len (m : Mem) : (virt m).length = m.length := by simp [virt]
theorem virt_al (m : Mem) (n : Nat) : al (virt m) n ↔ al m n := by unfold al; rw [virt_at, Option.isSome_map]

def isNew (nm k n : Nat) : Bool := decide (nm ≤ n) && decide (n < nm + k)
def copyN (m m1 : Mem) (nm k : Nat) : Mem := zipR (fun n x y => bif isNew nm k n then x else y) 0 m1 m
theorem copyN_len (m m1 : Mem) (nm k : Nat) : (copyN m m1 nm k).length = m.length := zipR_len _ _ _
theorem copyN_at (m m1 : Mem) (nm k n : Nat) (h : n < m.length) : (copyN m m1 nm k).at n = bif isNew nm k n then m1.at n else m.at n := by
  unfold copyN
  rw [zipR_at _ _ _ _ h, Nat.zero_add]
theorem copyN_other (m m1 : Mem) {nm k n : Nat} (h : isNew nm k n = false) : (copyN m m1 nm k).at n = m.at n := by
  by_cases hn : n < m.length
  · rw [copyN_at _ _ _ _ _ hn, h]; rfl
  · have e1 : m.at n = none := by simp [Mem.at, List.getD, List.getElem?_eq_none (show m.length ≤ n by omega)]
    have e3 : (copyN m m1 nm k).at n = none := by simp [Mem.at, List.getD, List.getElem?_eq_none (show (copyN m m1 nm k).length ≤ n by rw [copyN_len]; omega)]
    rw [e1, e3]
def newB (x : Option (E × Blk)) : Bool :=
  match x with
  | some (_, .lst _ row true _ _) => (rowKs row).isSome
  | _ => false
def newOK (m1 : Mem) (nm k : Nat) : Bool := (List.range k).all fun i => decide (nm + i < m1.length) && newB (m1.at (nm + i))

def callP (e : Ent) (m : Mem) (nm : Nat) (args : List SV) : Option (E × SV × Mem) :=
  match callE e (virt m) nm args with
  | some (g, v, m1) => if newOK m1 nm (Sh.nnL e.outL) = true ∧ ((allN v).all fun n => isNew nm (Sh.nnL e.outL) n) = true then some (g, v, copyN m m1 nm (Sh.nnL e.outL)) else none
  | none => none
def callX (lent : Bool) (e : Ent) (m : Mem) (nm : Nat) (args : List SV) : Option (E × SV × Mem) := bif lent then callP e m nm args else callE e m nm args
def fpCX (lent : Bool) (e : Ent) (m : Mem) (nm : Nat) (args : List SV) : List Nat × List Nat := fpC e (bif lent then virt m else m) nm args

section
variable {P : Program} {ρ : Nat → Int} {G : Glob} {w0 w : World} {M0 Im0 Im : Nat → Prop} {ad : Nat → Hd} {m m2 m' : Mem}

theorem isNew_iff {nm k n : Nat} : isNew nm k n = true ↔ nm ≤ n ∧ n < nm + k := by simp [isNew]
theorem newOK_spec {m1 : Mem} {nm k n : Nat} (h : newOK m1 nm k = true) (hn : isNew nm k n = true) : n < m1.length ∧ newB (m1.at n) = true := by
  obtain ⟨a, b⟩ := isNew_iff.1 hn
  have := List.all_eq_true.1 h (n - nm) (List.mem_range.2 (by omega))
  rw [show nm + (n - nm) = n by omega] at this
  simpa using this
theorem newB_spec {x : Option (E × Blk)} (h : newB x = true) : ∃ g ty ks le c, x = some (g, .lst ty (Row.ofKs ks) true le c) := by
  unfold newB at h
  split at h
  · rename_i g ty row le c
    obtain ⟨ks, hk⟩ := Option.isSome_iff_exists.1 h
    exact ⟨g, ty, ks, le, c, by rw [rowKs_eq hk]⟩
  · cases h

theorem virt_rel {F : Fam} (hR : Rel F ρ w0 M0 Im0 ad m w) : Rel F ρ w (fun _ => False) (fun b => b < w.heap.size) ad (virt m) w := by
  obtain ⟨hM, Im, h1, h2, hI⟩ := hR
  refine ⟨fun b hb => hb.elim, fun b => b < w.heap.size, fun b hb => hb, fun b hb => Or.inl hb, ⟨fun n g x hn hg => ?_, fun n g x hn => ?_, fun n k g x g' y b a1 a2 a3 a4 a5 a6 => ?_, fun b hb => hb, Fr.refl _ _⟩⟩
  · rw [virt_at] at hn
    obtain ⟨⟨g0, x0⟩, h0, he⟩ := Option.map_eq_some_iff.1 hn
    simp only [Prod.mk.injEq] at he
    obtain ⟨rfl, rfl⟩ := he
    obtain ⟨i1, i2⟩ := hI.ent n g0 x0 h0 hg
    cases x0 with
    | lst ty row own le c =>
      obtain ⟨j1, j2, j3⟩ := i1
      refine ⟨⟨j1, j2, ?_⟩, fun b hb => by simp [virtB, mutB] at hb⟩
      simp only [cond_false]
      cases own with
      | false =>
        simp only [cond_false] at j3
        exact j3.fr fun b hb => ⟨hI.im b hb, rfl⟩
      | true =>
        simp only [cond_true] at j3
        have hlen : (le.den F ρ).toNat = (dc (c.den F ρ)).length := by rw [j2]; simp
        refine j3.share.fr fun b hb => ⟨?_, rfl⟩
        rcases hb with hb | hb
        · exact hI.im b hb
        · exact (i2 b (by simp only [mutB, hlen]; exact hb)).2.2
    | _ => exact ⟨trivial, fun b hb => by simp [virtB, mutB] at hb⟩
  · rw [virt_at] at hn
    obtain ⟨⟨g0, x0⟩, h0, he⟩ := Option.map_eq_some_iff.1 hn
    simp only [Prod.mk.injEq] at he
    obtain ⟨rfl, rfl⟩ := he
    cases x0 <;> trivial
  · exfalso
    rw [virt_at] at a1
    obtain ⟨⟨g0, x0⟩, h0, he⟩ := Option.map_eq_some_iff.1 a1
    simp only [Prod.mk.injEq] at he
    obtain ⟨rfl, rfl⟩ := he
    cases x0 <;> simp [virtB, mutB] at a5

theorem callP_sound {l : Tabs} {e : Ent} (he : l.get e.key = some e) (hE : EntryOK P G e) (hG : GOK G Im0 w0) (hR : Rel l.F ρ w0 M0 Im0 ad m w) {nm : Nat} {args : List SV} {g : E} {v : SV}
    (h : callP e m nm args = some (g, v, m')) : g.kind = .b ∧ (g.tt l.F ρ = true → Calls P e.f (SV.concL l.F ρ ad args).toArray w fun en w' => ∃ ad', en = .returned (v.conc l.F ρ ad') ∧ Rel l.F ρ w0 M0 Im0 ad' m' w' ∧ Ext ad ad' m m' ∧ v.ok (al m')) := by
  unfold callP at h
  split at h
  · rename_i g1 v1 m1 hc
    split at h
    · rename_i hok
      simp only [Option.some.injEq, Prod.mk.injEq] at h
      obtain ⟨rfl, rfl, rfl⟩ := h
      have hGw := hG.now hR
      have hGV : GOK G (fun b => b < w.heap.size) w := fun F ρ b off v hv => by
        obtain ⟨a, b', c, d⟩ := hGw F ρ b off v hv
        exact ⟨b', b', c, d⟩
      obtain ⟨k1, k2⟩ := callE_sound he hE hGV (virt_rel hR) hc
      refine ⟨k1, fun hg => (k2 hg).mono ?_⟩
      rintro en w' ⟨ad', rfl, r2, r3, r4⟩
      obtain ⟨hM, Im, h1, h2, hI⟩ := hR
      obtain ⟨_, Im1, q1, q2, qI⟩ := r2
      let k := Sh.nnL e.outL
      have hnl : ∀ n, isNew nm k n = true → n < m.length := fun n hn => by
        have hl : m1.length = (virt m).length := (callE_loc hc).1.len
        have := (newOK_spec hok.1 hn).1
        rw [hl, virt_len] at this; exact this
      have hfree : ∀ n, isNew nm k n = true → m.at n = none := fun n hn => by
        have hf : freeB (virt m) nm k = true := by
          have hc' := hc
          unfold callE at hc'
          split at hc'
          · simp only at hc'
            split at hc'
            · split at hc'
              · rename_i hcc; exact hcc.2.2.1
              · cases hc'
            · cases hc'
          · cases hc'
        obtain ⟨a, b⟩ := isNew_iff.1 hn
        have := (freeB_spec hf (i := n - nm) (by omega)).2
        rw [show nm + (n - nm) = n by omega, virt_at] at this
        simpa using this
      have hAt : ∀ n, (copyN m m1 nm k).at n = bif isNew nm k n then m1.at n else m.at n := fun n => by
        cases hn : isNew nm k n
        · rw [copyN_other _ _ hn]; rfl
        · rw [copyN_at _ _ _ _ _ (hnl n hn), hn]
      have hkeep : ∀ n, al m n → al (copyN m m1 nm k) n := fun n hn => by
        unfold al at hn ⊢
        rw [hAt]
        cases hnew : isNew nm k n
        · exact hn
        · rw [hfree n hnew] at hn; cases hn
      have hsame : ∀ n, al m n → ad n = ad' n := fun n hn => r3.same n ((virt_al m n).2 hn)
      have hnewal : ∀ n, isNew nm k n = true → al (copyN m m1 nm k) n := fun n hn => by
        unfold al
        rw [hAt, hn]
        obtain ⟨g', ty, ks, le, c, e'⟩ := newB_spec (newOK_spec hok.1 hn).2
        simp only [cond_true, e']; rfl
      refine ⟨ad', rfl, ⟨hM, Im, h1, h2, ?_⟩, ⟨hsame, hkeep⟩, allN_ok _ fun n hn => hnewal n (List.all_eq_true.1 hok.2 n hn)⟩
      have hnewE : ∀ n g x, (copyN m m1 nm k).at n = some (g, x) → isNew nm k n = true → g.tt l.F ρ = true → BlkOK l.F ρ Im ad' n w' x ∧ ∀ b, mutB l.F ρ ad' n x = some b → w.heap.size ≤ b ∧ b < w'.heap.size := fun n g x hn hnew hg' => by
        rw [hAt, hnew] at hn
        obtain ⟨i1, i2⟩ := qI.ent n g x hn hg'
        obtain ⟨g0, ty, ks, le, c, e'⟩ := newB_spec (newOK_spec hok.1 hnew).2
        simp only [cond_true] at hn
        rw [hn] at e'
        simp only [Option.some.injEq, Prod.mk.injEq] at e'
        obtain ⟨rfl, rfl⟩ := e'
        obtain ⟨j1, j2, j3⟩ := i1
        simp only [cond_true] at j3
        obtain ⟨o1, xs, o2, o3⟩ := j3
        refine ⟨⟨j1, j2, o1, xs, o2, RowsV_any o3⟩, fun b hb => ?_⟩
        obtain ⟨c1, c2, c3⟩ := i2 b hb
        exact ⟨c1.resolve_left fun x => x, c3⟩
      have hw0 := hI.fr.size
      refine hI.step (T := fun _ => False) qI.fr (fun b _ hb => hb.elim) (fun b hb => hb) (fun b hb => Nat.lt_of_lt_of_le (hI.im b hb) qI.fr.size) hsame hkeep (fun n g x hn hg' => ?_) (fun n g x hn => ?_) (fun n k' g x g' y b a1 a2 a3 a4 a5 a6 a7 => ?_)
      · cases hnew : isNew nm k n
        · left
          rw [hAt, hnew] at hn
          refine ⟨⟨g, hn, hg'⟩, fun b hb => ⟨fun x => x, ?_⟩⟩
          exact ((hI.ent n g x hn hg').2 b hb).2.1
        · right
          obtain ⟨i1, i2⟩ := hnewE n g x hn hnew hg'
          refine ⟨i1, fun b hb => ?_⟩
          obtain ⟨j1, j2⟩ := i2 b hb
          exact ⟨⟨Or.inr (by omega), fun hi => by have := hI.im b hi; omega, j2⟩, Or.inr j1⟩
      · cases hnew : isNew nm k n
        · rw [hAt, hnew] at hn
          exact SV.okL_mono hkeep _ (hI.ok n g x hn)
        · rw [hAt, hnew] at hn
          obtain ⟨g0, ty, ks, le, c, e'⟩ := newB_spec (newOK_spec hok.1 hnew).2
          simp only [cond_true] at hn
          rw [hn] at e'
          simp only [Option.some.injEq, Prod.mk.injEq] at e'
          obtain ⟨rfl, rfl⟩ := e'
          trivial
      · have hbig : w.heap.size ≤ b := by
          rcases a7 with a7 | a7
          · exact a7.elim
          · exact a7
        have side : ∀ n g x, (copyN m m1 nm k).at n = some (g, x) → g.tt l.F ρ = true → mutB l.F ρ ad' n x = some b → m1.at n = some (g, x) := fun n g x hn hg' hb => by
          cases hnew : isNew nm k n
          · exfalso
            rw [hAt, hnew] at hn
            simp only [cond_false] at hn
            rw [mutB_congr (hsame n (Mem.at_al hn)).symm] at hb
            have := ((hI.ent n g x hn hg').2 b hb).2.2
            omega
          · rw [hAt, hnew] at hn; exact hn
        exact qI.inj n k' g x g' y b (side n g x a1 a2 a5) a2 (side k' g' y a3 a4 a6) a4 a5 a6
    · cases h
  · cases h

theorem callP_loc {e : Ent} {nm : Nat} {args : List SV} {g : E} {v : SV} (h : callP e m nm args = some (g, v, m')) :
    Loc (fun m => callP e m nm args) m (fpC e (virt m) nm args) g v m' ∧ ∀ m2, Agree ((fpC e (virt m) nm args).1 ++ (fpC e (virt m) nm args).2) m m2 → fpC e (virt m2) nm args = fpC e (virt m) nm args := by
  unfold callP at h
  split at h
  · rename_i g1 v1 m1 hc
    split at h
    · rename_i hok
      simp only [Option.some.injEq, Prod.mk.injEq] at h
      obtain ⟨rfl, rfl, rfl⟩ := h
      obtain ⟨c1, c2⟩ := callE_loc hc
      have hvA : ∀ {L : List Nat} {m2 : Mem}, Agree L m m2 → Agree L (virt m) (virt m2) := fun {L m2} ha n hn => by rw [virt_at, virt_at, ha n hn]
      have hnewfp : ∀ n, isNew nm (Sh.nnL e.outL) n = true → n ∈ (fpC e (virt m) nm args).2 := fun n hn => by
        have hc' := hc
        unfold callE at hc'
        split at hc'
        · rename_i es srcs g0 hget
          simp only [fpC, hget]
          obtain ⟨a, b⟩ := isNew_iff.1 hn
          exact List.mem_append_right _ (List.mem_map.2 ⟨n - nm, List.mem_range.2 (by omega), by omega⟩)
        · cases hc'
      have hnl : ∀ n, isNew nm (Sh.nnL e.outL) n = true → n < m.length := fun n hn => by
        have := (newOK_spec hok.1 hn).1
        rw [c1.len, virt_len] at this; exact this
      refine ⟨⟨copyN_len _ _ _ _, fun n hn => copyN_other _ _ ?_, fun m2 hl ha => ?_⟩, fun m2 ha => c2 _ (hvA ha)⟩
      · cases hnew : isNew nm (Sh.nnL e.outL) n
        · rfl
        · exact (hn (hnewfp n hnew)).elim
      · obtain ⟨m1', r1, r2, r3, r4⟩ := c1.loc (virt m2) (by rw [virt_len, virt_len]; exact hl) (hvA ha)
        have hsame : ∀ n, isNew nm (Sh.nnL e.outL) n = true → m1'.at n = m1.at n := fun n hn => r3 n (hnewfp n hn)
        have hok' : newOK m1' nm (Sh.nnL e.outL) = true := by
          unfold newOK
          rw [List.all_eq_true]
          intro i hi
          have hn : isNew nm (Sh.nnL e.outL) (nm + i) = true := isNew_iff.2 ⟨by omega, by have := List.mem_range.1 hi; omega⟩
          obtain ⟨a, b⟩ := newOK_spec hok.1 hn
          rw [hsame _ hn, b]
          have : nm + i < m1'.length := by rw [r2, virt_len, hl]; exact hnl _ hn
          simp [this]
        refine ⟨copyN m2 m1' nm (Sh.nnL e.outL), ?_, copyN_len _ _ _ _, fun n hn => ?_, fun n hn => copyN_other _ _ ?_⟩
        · unfold callP
          rw [r1]
          simp only
          rw [if_pos ⟨hok', hok.2⟩]
        · cases hnew : isNew nm (Sh.nnL e.outL) n
          · rw [copyN_other _ _ hnew, copyN_other _ _ hnew]
            exact ha n (List.mem_append_right _ hn)
          · rw [copyN_at _ _ _ _ _ (by rw [hl]; exact hnl n hnew), copyN_at _ _ _ _ _ (hnl n hnew), hnew]
            exact hsame n hnew
        · cases hnew : isNew nm (Sh.nnL e.outL) n
          · rfl
          · exact (hn (hnewfp n hnew)).elim
    · cases h
  · cases h

theorem callX_sound {l : Tabs} {lent : Bool} {e : Ent} (he : l.get e.key = some e) (hE : EntryOK P G e) (hG : GOK G Im0 w0) (hR : Rel l.F ρ w0 M0 Im0 ad m w) {nm : Nat} {args : List SV} {g : E} {v : SV}
    (h : callX lent e m nm args = some (g, v, m')) : g.kind = .b ∧ (g.tt l.F ρ = true → Calls P e.f (SV.concL l.F ρ ad args).toArray w fun en w' => ∃ ad', en = .returned (v.conc l.F ρ ad') ∧ Rel l.F ρ w0 M0 Im0 ad' m' w' ∧ Ext ad ad' m m' ∧ v.ok (al m')) := by
  cases lent
  · exact callE_sound he hE hG hR h
  · exact callP_sound he hE hG hR h
theorem callX_loc {lent : Bool} {e : Ent} {nm : Nat} {args : List SV} {g : E} {v : SV} (h : callX lent e m nm args = some (g, v, m')) :
    Loc (fun m => callX lent e m nm args) m (fpCX lent e m nm args) g v m' ∧ ∀ m2, Agree ((fpCX lent e m nm args).1 ++ (fpCX lent e m nm args).2) m m2 → fpCX lent e m2 nm args = fpCX lent e m nm args := by
  cases lent
  · exact callE_loc h
  · exact callP_loc h
end
end Go.Proofs.Ytmolkkphnehgcaa.Ew
