/- Layer 26: the row of MatchWrong and its card. Written by a program of mine. -/
import Derived.Test.YtbolcnlenmphhaaDoorSd
import Derived.Test.YtbolcnlenmphhaaDoorLaid
import Derived.Test.YtbolcnlenmphhaaDoorTie
import Derived.Test.YtbolcnlenmphhaaDoorCards
set_option linter.unusedVariables false
namespace Go.Proofs.YtbolcnlenmphhaaDoor.Card10
open Go Go.RowKit Ev Go.ChangeShapes Go.WideShapes Go.ChangeAt

set_option maxRecDepth 100000 in
theorem lifted (os : Os) (started : os.Started) (H : Type) (enc : TypeId × Value → H) :
    ReturnsInHanded {} Tryd.checked os 10 .any (fun w args => (Rows.matchWrongSpec.pre enc Tryd.prog Tryd.f10 Rows.matchWrongRow.domain false w args ∧ laidMetH Tryd.prog laidL w) ∧ sizedMet enc Tryd.prog Tryd.f10 (OpenSpec.ofChange Rows.matchWrongSpec) false w args)
      (Rows.matchWrongSpec.post enc Tryd.prog Tryd.f10 false true false false) := by
  refine returnsInHanded_of_change_and (C := Tryd.checked) (X := fun w _ => laidMetH Tryd.prog laidL w) (fun _ _ _ hh h => h.of_heap hh) own started (by kernel_rfl) Tryd.func10
    (ChangeSpec.witness_shaped (enc := enc) (C := Tryd.checked) (os := os) (X := fun w _ => laidMetH Tryd.prog laidL w) false (World.laidAll Tryd.prog os laidL) #[.agg #[.int .u8 0, .int .u8 0, .int .u8 0, .int .u8 0, .int .u8 0, .int .u8 0, .int .u8 0, .int .u8 0, .int .u8 0, .int .u8 0, .int .u8 0, .int .u8 0, .bool false], .int .u8 0, .int .u8 0] 12 (World.laidAll_os _ _ _)
      (World.shaped_of_ZipB (by kernel_rfl) (by kernel_rfl)) (by kernel_rfl) (by kernel_rfl) (by kernel_rfl) (laid_wit os _)) ?_
  intro W base args ds gs before hval0 hW hc _ hL _
  have hval : ∀ (j : Nat) t v, Tryd.f10.params[j]? = some t → args[j]? = some v → Value.okWide Tryd.prog W .any base t v := hval0
  have hW' := hW
  obtain ⟨p, q, hA0, hV, rfl, _, _⟩ := hW
  have hA : DataW.TrodAll enc Tryd.prog W 0 (fun _ => true) true Tryd.f10.params.toList args.toList ds p := hA0
  rw [Tryd.params10] at hA hval
  obtain ⟨xs, ex, fx, rfl, all⟩ := args_open [38, 5, 5] [.a [.i .u8, .i .u8, .i .u8, .i .u8, .i .u8, .i .u8, .i .u8, .i .u8, .i .u8, .i .u8, .i .u8, .i .u8, .b], .s (.i .u8), .s (.i .u8)] args.toList ds p (by kernel_rfl) (fun j t v ht hv => hval j t v (by simpa using ht) (by simpa using hv)) hA
  obtain ⟨rfl, rfl⟩ := trodVars_none hV
  have hargs : args = (argVals [.a [.i .u8, .i .u8, .i .u8, .i .u8, .i .u8, .i .u8, .i .u8, .i .u8, .i .u8, .i .u8, .i .u8, .i .u8, .b], .s (.i .u8), .s (.i .u8)] xs).toArray := by cases args; simpa using ex
  have hd : ∃ d0 d1 d2 : DataW H, ds = [d0, d1, d2] := by
    exact ds_len3 hA
  obtain ⟨d0, d1, d2, rfl⟩ := hd
  simp only [List.append_nil] at hW'
  rw [hargs]
  refine (ok10 xs fx W (gok_of_laid hL)).mono fun e W' ⟨he, hb⟩ => ?_
  rw [← hargs]
  subst he
  exact ⟨_, rfl, _, _, _, [], [], [], hW', trodAll_mk1 (shut_bool Tryd.underlying4 _), all _ _ _ _, rfl, hb.frame _, fun h => by cases h⟩

theorem row : Rows.MatchWrongSaid :=
  OpenClaim.holds_of_wide 10 Tryd.f10 rfl rfl rfl rfl rfl rfl rfl ⟨rfl, rfl, rfl, rfl, rfl⟩ rfl rfl rfl rfl rfl (by kernel_rfl) Tryd.func10 (by kernel_rfl)
    (of_decide_eq_true (by kernel_rfl)) (by unfold Func.isWrapper; first | (rw [if_pos (by decide +kernel)]; kernel_rfl) | (rw [if_neg (by decide +kernel)]; exact ⟨rfl, rfl⟩))
    (fun os started H enc _ => lifted os started H enc)

theorem proved : Rows.MatchWrongCardSaid :=
  Claim7.holds_tied_plain_at .later [] [.data] true (true, "aab662e4f8585f970daa9fb74f29544b4137c66ee3a4a693fafbd6b99318668e") false row (fun _ h => by cases h) (by kernel_rfl) (fun _ h => by cases h) matchWrong_row_tie rfl ⟨rfl, rfl⟩ (by kernel_rfl) rfl
    (fun f fn hf hfn => by
      obtain rfl : f = 10 := Option.some.inj ((show Tryd.prog.funcNamed "baffle/bafflelaw26.MatchWrong" = some 10 by kernel_rfl).symm.trans hf) |>.symm
      obtain rfl : fn = Tryd.f10 := (Option.some.inj (Tryd.func10.symm.trans hfn)).symm
      exact ⟨by kernel_rfl, fun j t ht => by
        rw [Tryd.params10] at ht
        have hm : t ∈ ([38, 5, 5] : List TypeId) := by simpa using Array.mem_of_getElem? ht
        have hall : (([38, 5, 5] : List TypeId).all fun u => !Tryd.prog.wantsStandIn u) = true := by kernel_rfl
        exact (show Tryd.prog.wantsStandIn t = false by simpa using List.all_eq_true.1 hall t hm)⟩)
    (by kernel_rfl)
end Go.Proofs.YtbolcnlenmphhaaDoor.Card10
namespace Go.Proofs.YtbolcnlenmphhaaDoor
/-- The statement. -/
theorem matchWrong_proved : Rows.MatchWrongCardSaid := Card10.proved
#print axioms matchWrong_proved
end Go.Proofs.YtbolcnlenmphhaaDoor
