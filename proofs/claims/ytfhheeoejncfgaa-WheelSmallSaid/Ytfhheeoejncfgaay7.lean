import Derived.Test.Ytfhheeoejncfgaay6
import Derived.Test.YtfhheeoejncfgaaRows
set_option linter.unusedVariables false
set_option linter.unusedSimpArgs false
namespace Go.Proofs.Ytfhheeoejncfgaa.Ew.Cd8
open Go Go.RowKit Go.ChangeShapes Go.WideShapes Go.Proofs.Ytfhheeoejncfgaa.Ew Go.Proofs.Ytfhheeoejncfgaa.Ew.Ar
theorem own : ownKnob Try.prog.godebug = none := by kernel_rfl
set_option maxHeartbeats 1000000 in
set_option maxRecDepth 100000 in
theorem Zf (os : Os) (started : os.Started) (H : Type) (enc : TypeId × Value -> H) :
 ReturnsInHanded {} Try.checked os 8 .any (Rows.wheelSmallSpec.pre6 enc Try.prog Try.f8 Rows.wheelSmallRow.domain false) (Rows.wheelSmallSpec.post enc Try.prog Try.f8 false true false false) := by
 refine returnsInHanded_of_change (C := Try.checked) own started (by kernel_rfl) Try.func8
  (ChangeSpec.witness6 (enc := enc) (C := Try.checked) false ⟨#[], #[], []⟩ 8 (by kernel_rfl) (by kernel_rfl) (by kernel_rfl) (by kernel_rfl)) ?_
 intro W base args ds gs before hval0 hW _ _
 have hval : ∀ (j : Nat) t v, Try.f8.params[j]? = some t -> args[j]? = some v -> Value.okWide Try.prog W .any base t v := hval0
 have hW' := hW
 obtain ⟨p, q, hA0, hV, rfl, _, _⟩ := hW
 have hA : DataW.TrodAll enc Try.prog W 0 (fun _ => true) true Try.f8.params.toList args.toList ds p := hA0
 rw [Try.params8] at hA hval
 obtain ⟨rfl, rfl⟩ := trodVars_none hV
 obtain ⟨rfl, rfl, rfl⟩ := trodAll_none hA
 have hcall : Calls Try.prog 8 #[] W fun en W' => en = .returned (.bool true) /\ Below W.heap.size W W' := by
  refine V6 (e := e8) ok8.1 (xs := []) trivial trivial rfl rfl (hs := fun _ => default) ?_ ?_
  ·rfl
  ·exact WO
 refine hcall.mono fun en W' ⟨he, hb⟩ => ⟨.bool true, he, Ua (pa := []) (pv := []) hW' (fun b sp hdl => trodAll_mk1 (shut_bool Try.underlying4 _)) (fun sp hold => ?_) (fun _ _ => rfl) rfl hb ?_⟩
 ·exact rfl
 ·intro j t r hj hr
  match j with
  | 0 =>
    obtain rfl : 4 = t := Option.some.inj hj
    obtain rfl : Value.bool true = r := Option.some.inj hr
    exact okWide_bool_mk Try.underlying4 _
  | j + 1 => exact absurd hj (by simp [Try.f8])
theorem row : Rows.WheelSmallSaid :=
 OpenClaim.holds_of_wide 8 Try.f8 rfl rfl rfl rfl rfl rfl rfl ⟨rfl, rfl, rfl, rfl, rfl⟩ rfl rfl rfl rfl rfl (by kernel_rfl) Try.func8 (by kernel_rfl)
  (of_decide_eq_true (by kernel_rfl)) (by unfold Func.isWrapper; first | (rw [if_pos (by decide +kernel)]; kernel_rfl) | (rw [if_neg (by decide +kernel)]; exact ⟨rfl, rfl⟩))
  (fun os started H enc _ => Zf os started H enc)
end Go.Proofs.Ytfhheeoejncfgaa.Ew.Cd8
namespace Go.Proofs.Ytfhheeoejncfgaa
theorem wheelSmall_proved : Rows.WheelSmallSaid := Ew.Cd8.row
#print axioms wheelSmall_proved
end Go.Proofs.Ytfhheeoejncfgaa
