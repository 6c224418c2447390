/- Layer 18: a new wheel, in plain Lean. -/
import Derived.Test.YtfhheeoejncfgaaHi
set_option linter.unusedVariables false
set_option linter.unusedSimpArgs false
namespace Go.Proofs.Ytfhheeoejncfgaa.Ew
open Go Go.RowKit
noncomputable section

theorem gC_rep (n w k j : Nat) : gC (List.replicate n (List.replicate w 0)) k j = 0 := by
  unfold gC
  rw [List.getD_eq_getElem?_getD, List.getD_eq_getElem?_getD, List.getElem?_replicate]
  by_cases h : k < n
  · rw [if_pos h, Option.getD_some, List.getElem?_replicate]
    by_cases h2 : j < w
    · rw [if_pos h2]; rfl
    · rw [if_neg h2]; rfl
  · rw [if_neg h]; rfl
theorem gC_S0 (k j : Nat) : gC S0 k j = 0 := gC_rep 2049 3 k j
theorem gC_Tn (c : Int) (k j : Nat) : gC (Tn c) k j = 0 := gC_rep c.toNat 5 k j
theorem wid_rep (n w : Nat) : Wid (List.replicate n (List.replicate w 0)) n w := by
  refine ⟨List.length_replicate, fun i hi => ?_⟩
  rw [List.getD_eq_getElem?_getD, List.getElem?_replicate, if_pos hi, Option.getD_some, List.length_replicate]
theorem WOK.new {now c b w : Int} (h : newW now c b) (hw : 0 ≤ w) : WOK now b 0 S0 (Tn c) (fun _ => []) w := by
  obtain ⟨h1, h2, h3, h4⟩ := h
  have hl : (Tn c).length = c.toNat := List.length_replicate
  refine ⟨h1, h3, ⟨by omega, by omega, by omega⟩, fun r hr => ?_, fun r hr => ?_, ⟨?_, wid_rep 2049 3, fun k i hi => (absurd hi List.not_mem_nil), fun _ _ => rfl, fun _ => List.nodup_nil, fun k m i hi => (absurd hi List.not_mem_nil), fun k hk => ⟨gC_S0 k 0, gC_S0 k 1, gC_S0 k 2⟩, fun k A i B hq => ?_⟩, fun i _ hi => ?_, fun k i hi => (absurd hi List.not_mem_nil), fun i _ => ?_, fun i _ hi => ?_, ?_, ?_⟩
  · rw [(List.mem_replicate.1 hr).2]; exact ⟨rfl, rfl, rfl, trivial⟩
  · rw [(List.mem_replicate.1 hr).2]; exact ⟨rfl, rfl, rfl, rfl, rfl, trivial⟩
  · rw [hl]; exact wid_rep c.toNat 5
  · cases A <;> cases hq
  · rw [gC_Tn] at hi; omega
  · rw [gC_Tn]; omega
  · rw [gC_Tn] at hi; omega
  · rw [show cntW now (Tn c) = 0 from cnt_zero fun i _ => by
      unfold waits
      rw [show decide (now < gC (Tn c) i 4) = false from decide_eq_false (by rw [gC_Tn]; omega)]; rfl]
    exact hw
  · rw [show cntD (Tn c) = 0 from cnt_zero fun i _ => decide_eq_false (by rw [gC_Tn]; omega)]; rfl

end
end Go.Proofs.Ytfhheeoejncfgaa.Ew
