/- Layer 18: Backlog as a summary. -/
import Derived.Test.YtfhheeoejncfgaaHv
set_option linter.unusedVariables false
set_option linter.unusedSimpArgs false
namespace Go.Proofs.Ytfhheeoejncfgaa.Ew
open Go Go.RowKit
noncomputable section

/-- The IDs in the backlog. -/
def fn31 (_ : Nat) (xs : List Int) : Int := cd (tkN (env xs 1) 4096 (SW xs, TW xs)).2
def e31 : Ent := ⟨31, 31, [wsh], [], [0, 1], lio, fn31, WX⟩
theorem WV.ids {S now bu le mo T c : Int} {d : Nat → Int} {B : List Nat} (h : WV S now bu le mo T c d B) : dc (e31.fn 0 [S, now, bu, le, mo, T]) = B.map (fun i : Nat => [(i : Int)]) := by
  obtain ⟨Q, ok, hB⟩ := h.ok
  obtain ⟨Q', t1, t2, _⟩ := tkN_ok 4096 (dc S, dc T) Q le _ ok
  have hl := h.lenB
  have hc := h.ct
  show dc (cd (tkN now 4096 (dc S, dc T)).2) = _
  rw [dc_cd, t2, hB, List.take_of_length_le (by omega)]
theorem numV_get {ks : List K} : ∀ {r : List Int}, fits ks r → ∀ (j : Nat) (k : K), ks[j]? = some k → (numV ks r)[j]? = some (k.val (r.getD j 0)) := by
  induction ks with
  | nil => intro r _ j k h; simp at h
  | cons a ks ih =>
    intro r hf j k h
    obtain ⟨x, r', rfl, _, hr⟩ := fits_cons hf
    cases j with
    | zero => simp at h; subst h; simp [numV]
    | succ j => simpa [numV] using ih hr j k (by simpa using h)

theorem relE_kept {w w' : World} {M0 Im0 : Nat → Prop} {hs : Nat → Hd} {ty : Nat} {q : Row} {l : Ents} {ρ ρ' : Nat → Int} (hM : ∀ b, M0 b → ¬ Im0 b ∧ b < w.heap.size) (hR : RelE F0 ρ w M0 Im0 hs l w) (hB : Below w.heap.size w w') {nn : Nat} {hd' : Hd} {le c : E}
    (hb : ∀ x ∈ l, x.2.1.tt F0 ρ = true ∧ x.1 ≠ nn ∧ (∀ m ∈ allNL x.2.2.cs, m ≠ nn))
    (hk : ∀ x ∈ l, ∀ w, BlkOK F0 ρ Im0 (upd hs nn hd') x.1 w x.2.2 → BlkOK F0 ρ' Im0 (upd hs nn hd') x.1 w x.2.2)
    (hm : ∀ x ∈ l, mutB F0 ρ' (upd hs nn hd') x.1 x.2.2 = mutB F0 ρ hs x.1 x.2.2)
    (hcs : ∀ x ∈ l, SV.concL F0 ρ (upd hs nn hd') x.2.2.cs = SV.concL F0 ρ hs x.2.2.cs)
    (ho : BlkOK F0 ρ' Im0 (upd hs nn hd') nn w' (.lst ty q true le c)) (hob : ∀ b, mutB F0 ρ' (upd hs nn hd') nn (.lst ty q true le c) = some b → w.heap.size ≤ b ∧ b < w'.heap.size) :
    RelE F0 ρ' w M0 Im0 (upd hs nn hd') (l ++ [(nn, mkB true, .lst ty q true le c)]) w' := by
  have him := hR.im
  have hlt : ∀ x ∈ l, ∀ b, mutB F0 ρ hs x.1 x.2.2 = some b → (M0 b ∨ w.heap.size ≤ b) ∧ ¬ Im0 b ∧ b < w.heap.size := fun x hx b h => (hR.ent x hx (hb x hx).1).2 b h
  refine ⟨fun x hx _ => ?_, fun x hx y hy _ _ b h1 h2 => ?_, fun b h => Nat.lt_of_lt_of_le (him b h) hB.size, ⟨hB.os, hB.tape, hB.output, hB.size, fun k hk _ => hB.block k hk⟩⟩
  · rcases List.mem_append.1 hx with hx | hx
    · refine ⟨hk x hx w' ?_, fun b h => ?_⟩
      · refine BlkOK.fr (hR.ent x hx (hb x hx).1).1 (fun b h => ⟨h, hB.block b (him b h)⟩) (fun b h => hB.block b (hlt x hx b h).2.2) (if_neg (hb x hx).2.1) (hcs x hx)
      · rw [hm x hx] at h
        obtain ⟨a1, a2, a3⟩ := hlt x hx b h
        exact ⟨a1, a2, Nat.lt_of_lt_of_le a3 hB.size⟩
    · simp only [List.mem_singleton] at hx
      subst hx
      refine ⟨ho, fun b h => ?_⟩
      obtain ⟨b1, b2⟩ := hob b h
      exact ⟨Or.inr b1, fun hi => by have := him b hi; omega, b2⟩
  · rcases List.mem_append.1 hx with hx | hx <;> rcases List.mem_append.1 hy with hy | hy
    · rw [hm x hx] at h1
      rw [hm y hy] at h2
      exact hR.inj x hx y hy (hb x hx).1 (hb y hy).1 b h1 h2
    · simp only [List.mem_singleton] at hy
      subst hy
      rw [hm x hx] at h1
      have := (hlt x hx b h1).2.2
      have := (hob b h2).1
      omega
    · simp only [List.mem_singleton] at hx
      subst hx
      rw [hm y hy] at h2
      have := (hlt y hy b h2).2.2
      have := (hob b h1).1
      omega
    · simp only [List.mem_singleton] at hx hy
      subst hx; subst hy; rfl

set_option maxHeartbeats 1000000 in
theorem ok31 : EntryOK Try.prog G0 e31 := by
  intro xs hf hp w M0 Im0 hs hM hG hR
  obtain ⟨S, now, bu, le, mo, T, rfl⟩ := fits6 hf
  obtain ⟨⟨Q, ok⟩, _⟩ := hp
  replace ok : WOK now bu le (dc S) (dc T) Q (bu * (255 - now % 256)) := ok
  have hct := ok.ct
  have hsw := ok.lk.sw.1
  obtain ⟨⟨c0, c1, c2⟩, _⟩ := hR.ent _ (List.mem_cons_self ..) (by simp)
  obtain ⟨⟨a1, a2, a3⟩, aM⟩ := hR.ent _ (List.mem_cons_of_mem _ (List.mem_cons_self ..)) (by simp)
  replace a2 : IntKind.i64.wrap (((dc T).length : Nat) : Int) = (((dc T).length : Nat) : Int) := a2
  replace a3 : OwL w Im0 79 (Row.ofKs k5) (hs 1) (dc T) := a3
  replace c2 : w.heap[(hs 0).blk]? = some (.cells ([.int .i64 (IntKind.i64.wrap now), .int .i64 (IntKind.i64.wrap bu), .int .i64 (IntKind.i64.wrap le), .int .i64 (IntKind.i64.wrap mo), (hs 1).sl (IntKind.i64.wrap (((dc T).length : Nat) : Int)).toNat] ++ flatN k3 (dc S)).toArray 74 (0, 0)) := c2
  rw [a2, Int.toNat_natCast] at c2
  obtain ⟨o1, xsT, o2, o3⟩ := a3
  obtain ⟨ol, oh⟩ := o2
  rcases oh with ⟨_, h0⟩ | ⟨g, cap, cur, hsl, _, hg, hnc, hcm, hcs, htk⟩
  · omega
  rw [hsl] at c2
  have rS := ok.rS
  have hrow : (dc S)[2048]? = some (dc S)[2048] := List.getElem?_eq_getElem (by omega)
  obtain ⟨us, u1, u2⟩ := RowsV.get (flatN_rows (w := w) (Im := Im0) rS) 2048 _ hrow
  obtain ⟨uf, rfl⟩ := RowV_ks.1 u1
  have hfl : ∀ (j : Nat) (k : K), k3[j]? = some k → w.cell? ⟨(hs 0).blk, 6149 + j, none⟩ = some (k.val (gC (dc S) 2048 j)) := fun j k hj => by
    have h1 := numV_get uf j k hj
    have h2 := u2 j _ h1
    rw [cell_of_heap c2]
    have e : gC (dc S) 2048 j = (dc S)[2048].getD j 0 := by unfold gC; simp [List.getD, show 2048 < (dc S).length by omega]
    rw [e, ← h2]
    show (([_, _, _, _, _] ++ flatN k3 (dc S)).toArray)[6149 + j]? = _
    rw [List.getElem?_toArray, List.getElem?_append_right (by simp; omega)]
    congr 1
    show 6149 + j - 5 = 2048 * 3 + j
    omega
  have hM0 : WMem w (hs 0).blk g (dc T).length cap (dc T) (headP (Q 2048)) (gC (dc S) 2048 1) (gC (dc S) 2048 2) := by
    refine ⟨?_, ?_, hfl 1 _ rfl, hfl 2 _ rfl, fun i hi => ?_⟩
    · rw [cell_of_heap c2]; rfl
    · rw [← (ok.lk.hd 2048 (by decide)).1]; exact hfl 0 _ rfl
    · have hri : (dc T)[i]? = some (dc T)[i] := List.getElem?_eq_getElem hi
      obtain ⟨us, u1, u2⟩ := RowsV.get o3 i _ hri
      obtain ⟨uf, rfl⟩ := RowV_ks.1 u1
      have h1 := numV_get uf 3 _ rfl
      have h2 := u2 3 _ h1
      rw [← htk, List.getElem?_take] at h2
      rw [cell_of_heap hg]
      have e : gC (dc T) i 3 = (dc T)[i].getD 3 0 := by unfold gC; simp [List.getD, hi]
      rw [e]
      split at h2
      · have h3 : cur.toList[i * 5 + 3]? = some (Value.int .i64 ((dc T)[i].getD 3 0)) := h2
        simpa using h3
      · cases h2
  have hq : ∀ A i C, Q 2048 = A ++ i :: C → i < (dc T).length ∧ gC (dc T) i 3 = headP C := fun A i C h => ⟨ok.lk.qc 2048 i (by rw [h]; simp), (ok.lk.ch 2048 A i C h).2⟩
  have hnd := ok.lk.nd 2048
  have hql : (Q 2048).length ≤ (dc T).length := by
    have := List.Nodup.length_le_of_subset hnd (show Q 2048 ⊆ List.range (dc T).length from fun i hi => List.mem_range.2 (ok.lk.qc 2048 i hi))
    rwa [List.length_range] at this
  have H := callsIn_wide.1 (backlog_in Fence.wide 3 trivial trivial trivial trivial rfl (Nat.le_refl _) w (hs 0).blk g (dc T).length cap (dc T) (gC (dc S) 2048 1) (gC (dc S) 2048 2) (Q 2048) hq hnd hct.2.1 hct.1 (by omega) hM0)
  show Calls Try.prog 31 #[.pointer (some ⟨(hs 0).blk, 0, none⟩)] w _
  refine Calls.mono H fun en w' h => ?_
  obtain ⟨v, r1, r2, r3⟩ := h
  have r2' := ownsRow_base r2 (Nat.zero_le _)
  obtain ⟨hd', rfl⟩ := ownsRow_hd r2'
  obtain ⟨Q', t1, t2, _⟩ := tkN_ok 4096 (dc S, dc T) Q le _ ok
  have hv : dc (fn31 0 [S, now, bu, le, mo, T]) = (Q 2048).map (fun i : Nat => [(i : Int)]) := by
    show dc (cd (tkN now 4096 (dc S, dc T)).2) = _
    rw [dc_cd, t2, List.take_of_length_le (by omega)]
  obtain ⟨V, hV⟩ : ∃ V, V = fn31 0 [S, now, bu, le, mo, T] := ⟨_, rfl⟩
  have hVl : (dc V).length = (Q 2048).length := by rw [hV, hv, List.length_map]
  have hVc : isCd V := by rw [hV]; exact isCd_cd _
  have hwl : IntKind.i64.wrap (((dc V).length : Nat) : Int) = (((dc V).length : Nat) : Int) := i64w (by omega) (by omega)
  have hrv : RowsV w' Im0 (Row.ofKs intK) (dc V) ((Q 2048).map fun i : Nat => Value.int .i64 (i : Int)) := by
    rw [hV, hv]
    have : ∀ l : List Nat, (∀ i ∈ l, i < 4096) → RowsV w' Im0 (Row.ofKs intK) (l.map fun i : Nat => [(i : Int)]) (l.map fun i : Nat => Value.int .i64 (i : Int)) := by
      intro l
      induction l with
      | nil => intro _; rfl
      | cons a l ih =>
        intro hl
        refine ⟨[.int .i64 (a : Int)], _, rfl, ?_, ih fun i hi => hl i (List.mem_cons_of_mem _ hi)⟩
        have := hl a (List.mem_cons_self ..)
        exact RowV_ks.2 ⟨⟨i64w (by omega) (by omega), trivial⟩, rfl⟩
    exact this _ fun i hi => by have := ok.lk.qc 2048 i hi; omega
  have hos : outsE e31.fn [S, now, bu, le, mo, T] 0 e31.oks = [V] := by rw [hV]; rfl
  refine ⟨upd hs 2 hd', Im0, fun j hj => if_neg (by have : j < 2 := hj; omega), fun _ h => h, fun b h => Or.inl h, ?_, ?_⟩
  · rw [r1, hos]
    show Ending.returned (hd'.sl (Q 2048).length) = Ending.returned ((upd hs 2 hd' 2).sl (IntKind.i64.wrap (((dc V).length : Nat) : Int)).toNat)
    rw [hwl, upd_same, Int.toNat_natCast, hVl]
  · rw [hos]
    refine relE_kept (l := e31.pgen.2) hM hR r3 (nn := 2) (hd' := hd') ?_ ?_ ?_ ?_ ?_ ?_
    · intro x hx
      simp only [show e31.pgen.2 = [(0, mkB true, .seg 74 [.sc (.var (.i .i64) 1), .sc (.var (.i .i64) 2), .sc (.var (.i .i64) 3), .sc (.var (.i .i64) 4), .ls 1 (.app (.i .i64) 0 0 [.var .x 5])] k3 (.var .x 0)), (1, mkB true, .lst 79 (Row.ofKs k5) true (.app (.i .i64) 0 0 [.var .x 5]) (.var .x 5))] from rfl, List.mem_cons, List.not_mem_nil, or_false] at hx
      rcases hx with rfl | rfl
      · refine ⟨by simp, by decide, fun m hm => ?_⟩
        simp [Blk.cs, allNL, allN] at hm; omega
      · refine ⟨by simp, by decide, fun m hm => ?_⟩
        simp [Blk.cs, allNL] at hm
    · intro x hx w h
      simp only [show e31.pgen.2 = [(0, mkB true, .seg 74 [.sc (.var (.i .i64) 1), .sc (.var (.i .i64) 2), .sc (.var (.i .i64) 3), .sc (.var (.i .i64) 4), .ls 1 (.app (.i .i64) 0 0 [.var .x 5])] k3 (.var .x 0)), (1, mkB true, .lst 79 (Row.ofKs k5) true (.app (.i .i64) 0 0 [.var .x 5]) (.var .x 5))] from rfl, List.mem_cons, List.not_mem_nil, or_false] at hx
      rcases hx with rfl | rfl
      · exact h
      · exact h
    · intro x hx
      simp only [show e31.pgen.2 = [(0, mkB true, .seg 74 [.sc (.var (.i .i64) 1), .sc (.var (.i .i64) 2), .sc (.var (.i .i64) 3), .sc (.var (.i .i64) 4), .ls 1 (.app (.i .i64) 0 0 [.var .x 5])] k3 (.var .x 0)), (1, mkB true, .lst 79 (Row.ofKs k5) true (.app (.i .i64) 0 0 [.var .x 5]) (.var .x 5))] from rfl, List.mem_cons, List.not_mem_nil, or_false] at hx
      rcases hx with rfl | rfl
      · rfl
      · rfl
    · intro x hx
      simp only [show e31.pgen.2 = [(0, mkB true, .seg 74 [.sc (.var (.i .i64) 1), .sc (.var (.i .i64) 2), .sc (.var (.i .i64) 3), .sc (.var (.i .i64) 4), .ls 1 (.app (.i .i64) 0 0 [.var .x 5])] k3 (.var .x 0)), (1, mkB true, .lst 79 (Row.ofKs k5) true (.app (.i .i64) 0 0 [.var .x 5]) (.var .x 5))] from rfl, List.mem_cons, List.not_mem_nil, or_false] at hx
      rcases hx with rfl | rfl
      · rfl
      · rfl
    · refine ⟨hVc, hwl, ?_⟩
      show OwL w' Im0 3 (Row.ofKs intK) (upd hs 2 hd' 2) (dc V)
      rw [upd_same]
      refine ⟨by unfold maxLen; omega, _, ?_, hrv⟩
      rw [hVl]; exact r2'
    · intro b hb
      have hb' : ((upd hs 2 hd' 2).sl (IntKind.i64.wrap (((dc V).length : Nat) : Int)).toNat).ownBlock = some b := hb
      rw [hwl, upd_same, Int.toNat_natCast, hVl] at hb'
      exact r2.lt b hb'
end
end Go.Proofs.Ytfhheeoejncfgaa.Ew
