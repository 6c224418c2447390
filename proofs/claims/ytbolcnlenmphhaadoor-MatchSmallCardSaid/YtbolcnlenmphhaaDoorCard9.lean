/- Layer 26: the row of MatchSmall and its card. Written by a program of mine. -/
import Derived.Test.YtbolcnlenmphhaaDoorSj
import Derived.Test.YtbolcnlenmphhaaDoorLaid
import Derived.Test.YtbolcnlenmphhaaDoorTie
import Derived.Test.YtbolcnlenmphhaaDoorCards
set_option linter.unusedVariables false
namespace Go.Proofs.YtbolcnlenmphhaaDoor.Card9
open Go Go.RowKit Ev Go.ChangeShapes Go.WideShapes Go.ChangeAt

set_option maxRecDepth 100000 in
theorem lifted (os : Os) (started : os.Started) (H : Type) (enc : TypeId × Value → H) :
    ReturnsInHanded {} Tryd.checked os 9 .any (fun w args => (Rows.matchSmallSpec.pre enc Tryd.prog Tryd.f9 Rows.matchSmallRow.domain false w args ∧ laidMetH Tryd.prog laidL w) ∧ sizedMet enc Tryd.prog Tryd.f9 (OpenSpec.ofChange Rows.matchSmallSpec) false w args)
      (Rows.matchSmallSpec.post enc Tryd.prog Tryd.f9 false true false false) := by
  refine returnsInHanded_of_change_and (C := Tryd.checked) (X := fun w _ => laidMetH Tryd.prog laidL w) (fun _ _ _ hh h => h.of_heap hh) own started (by kernel_rfl) Tryd.func9
    (ChangeSpec.witness_shaped (enc := enc) (C := Tryd.checked) (os := os) (X := fun w _ => laidMetH Tryd.prog laidL w) false (World.laidAll Tryd.prog os laidL) #[] 12 (World.laidAll_os _ _ _)
      (World.shaped_of_ZipB (by kernel_rfl) (by kernel_rfl)) (by kernel_rfl) (by kernel_rfl) (by kernel_rfl) (laid_wit os _)) ?_
  intro W base args ds gs before hval0 hW hc _ hL _
  have hval : ∀ (j : Nat) t v, Tryd.f9.params[j]? = some t → args[j]? = some v → Value.okWide Tryd.prog W .any base t v := hval0
  have hW' := hW
  obtain ⟨p, q, hA0, hV, rfl, _, _⟩ := hW
  have hA : DataW.TrodAll enc Tryd.prog W 0 (fun _ => true) true Tryd.f9.params.toList args.toList ds p := hA0
  rw [Tryd.params9] at hA hval
  obtain ⟨xs, ex, fx, rfl, all⟩ := args_open [] [] args.toList ds p (by kernel_rfl) (fun j t v ht hv => hval j t v (by simp at ht) (by simp at ht)) hA
  obtain ⟨rfl, rfl⟩ := trodVars_none hV
  have hargs : args = (argVals [] xs).toArray := by cases args; simpa using ex
  have hd : ∃ u : Unit, ds = [] := by
    cases ds with
    | nil => exact ⟨(), rfl⟩
    | cons _ _ => exact absurd hA (by cases args with | mk l => cases l <;> simp [DataW.TrodAll])
  obtain ⟨_, rfl⟩ := hd
  simp only [List.append_nil] at hW'
  rw [hargs]
  refine (ok9 xs fx W (gok_of_laid hL)).mono fun e W' ⟨he, hb⟩ => ?_
  rw [← hargs]
  subst he
  exact ⟨_, rfl, _, _, _, [], [], [], hW', trodAll_mk1 (shut_bool Tryd.underlying4 _), all _ _ _ _, rfl, hb.frame _, fun h => by cases h⟩

theorem row : Rows.MatchSmallSaid :=
  OpenClaim.holds_of_wide 9 Tryd.f9 rfl rfl rfl rfl rfl rfl rfl ⟨rfl, rfl, rfl, rfl, rfl⟩ rfl rfl rfl rfl rfl (by kernel_rfl) Tryd.func9 (by kernel_rfl)
    (of_decide_eq_true (by kernel_rfl)) (by unfold Func.isWrapper; first | (rw [if_pos (by decide +kernel)]; kernel_rfl) | (rw [if_neg (by decide +kernel)]; exact ⟨rfl, rfl⟩))
    (fun os started H enc _ => lifted os started H enc)

theorem proved : Rows.MatchSmallCardSaid :=
  Claim7.holds_tied_plain_at .later [] [.data] true (true, "aab662e4f8585f970daa9fb74f29544b4137c66ee3a4a693fafbd6b99318668e") false row (fun _ h => by cases h) (by kernel_rfl) (fun _ h => by cases h) matchSmall_row_tie rfl ⟨rfl, rfl⟩ (by kernel_rfl) rfl
    (fun f fn hf hfn => by
      obtain rfl : f = 9 := Option.some.inj ((show Tryd.prog.funcNamed "baffle/bafflelaw26.MatchSmall" = some 9 by kernel_rfl).symm.trans hf) |>.symm
      obtain rfl : fn = Tryd.f9 := (Option.some.inj (Tryd.func9.symm.trans hfn)).symm
      exact ⟨by kernel_rfl, fun j t ht => by
        rw [Tryd.params9] at ht
        have hm : t ∈ ([] : List TypeId) := by simpa using Array.mem_of_getElem? ht
        have hall : (([] : List TypeId).all fun u => !Tryd.prog.wantsStandIn u) = true := by kernel_rfl
        exact (show Tryd.prog.wantsStandIn t = false by simpa using List.all_eq_true.1 hall t hm)⟩)
    (by kernel_rfl)
end Go.Proofs.YtbolcnlenmphhaaDoor.Card9
namespace Go.Proofs.YtbolcnlenmphhaaDoor
/-- The statement. -/
theorem matchSmall_proved : Rows.MatchSmallCardSaid := Card9.proved
#print axioms matchSmall_proved
end Go.Proofs.YtbolcnlenmphhaaDoor
