/- Layer 19: LazyQuiet: for every input that the row admits the law's function returns true, and the input reads afterwards as it did. -/
import Derived.Test.YtnockichpnaoeaaLi
import Derived.Test.YtnockichpnaoeaaWar
import Derived.Test.YtnockichpnaoeaaRows
set_option linter.unusedVariables false
set_option linter.unusedSimpArgs false
namespace Go.Proofs.Ytnockichpnaoeaa.Ew.Cd3
open Go Go.RowKit Go.ChangeShapes Go.WideShapes Go.Proofs.Ytnockichpnaoeaa.Ew Go.Proofs.Ytnockichpnaoeaa.Ew.Ar

theorem own : ownKnob Try.prog.godebug = none := by kernel_rfl

set_option maxHeartbeats 1000000 in
set_option maxRecDepth 100000 in
theorem lifted (os : Os) (started : os.Started) (H : Type) (enc : TypeId × Value → H) :
    ReturnsInHanded {} Try.checked os 3 .any (Rows.lazyQuietSpec.pre6 enc Try.prog Try.f3 Rows.lazyQuietRow.domain false) (Rows.lazyQuietSpec.post enc Try.prog Try.f3 false true false false) := by
  refine returnsInHanded_of_change (C := Try.checked) own started (by kernel_rfl) Try.func3
    (ChangeSpec.witness6 (enc := enc) (C := Try.checked) false ⟨#[], #[.int .i64 0, .int .i64 0, .int .i64 0], []⟩ 8 (by kernel_rfl) (by kernel_rfl) (by kernel_rfl) (by kernel_rfl)) ?_
  intro W base args ds gs before hval0 hW _ _
  have hval : ∀ (j : Nat) t v, Try.f3.params[j]? = some t → args[j]? = some v → Value.okWide Try.prog W .any base t v := hval0
  have hW' := hW
  obtain ⟨p, q, hA0, hV, rfl, _, _⟩ := hW
  have hA : DataW.TrodAll enc Try.prog W 0 (fun _ => true) true Try.f3.params.toList args.toList ds p := hA0
  rw [Try.params3] at hA hval
  obtain ⟨rfl, rfl⟩ := trodVars_none hV
  obtain ⟨vs, hvs⟩ : ∃ vs, args.toList = vs := ⟨_, rfl⟩
  have hargs : args = vs.toArray := by rw [← hvs]
  rw [hvs] at hA
  obtain ⟨v0, vs0, d0, ds0, p0, q0, e0, f0, g0, h0, hA⟩ := trodAll_cons hA
  obtain ⟨v1, vs1, d1, ds1, p1, q1, e1, f1, g1, h1, hA⟩ := trodAll_cons hA
  obtain ⟨v2, vs2, d2, ds2, p2, q2, e2, f2, g2, h2, hA⟩ := trodAll_cons hA
  obtain ⟨ev, ed, ep⟩ := trodAll_nil hA
  subst ev ed ep e2 f2 g2 e1 f1 g1 e0 f0 g0
  subst hargs
  have w0 := hval 0 3 v0 (by simp) (by simp)
  obtain ⟨z0, rfl, hz0, rfl, a0⟩ := int_open Try.underlying3 w0 h0
  have w1 := hval 1 3 v1 (by simp) (by simp)
  obtain ⟨z1, rfl, hz1, rfl, a1⟩ := int_open Try.underlying3 w1 h1
  have w2 := hval 2 3 v2 (by simp) (by simp)
  obtain ⟨z2, rfl, hz2, rfl, a2⟩ := int_open Try.underlying3 w2 h2
  have hcall : Calls Try.prog 3 #[.int .i64 z0, .int .i64 z1, .int .i64 z2] W fun en W' => en = .returned (.bool true) ∧ Below W.heap.size W W' := by
    refine call_true (e := z3) okz3.1 (xs := [z0, z1, z2]) ⟨hz0, hz1, hz2, trivial⟩ trivial rfl rfl (hs := fun _ => default) ?_ ?_
    · show (#[Value.int .i64 (IntKind.i64.wrap z0), Value.int .i64 (IntKind.i64.wrap z1), Value.int .i64 (IntKind.i64.wrap z2)] : Array Value) = _
      rw [hz0, hz1, hz2]
    · exact relE_nil
  refine hcall.mono fun en W' ⟨he, hb⟩ => ⟨.bool true, he, post_below (pa := [] ++ ([] ++ ([] ++ ([])))) (pv := []) hW' (fun b sp hdl => trodAll_mk1 (shut_bool Try.underlying4 _)) (fun sp hold => ?_) (fun _ _ => rfl) rfl hb ?_⟩
  · exact ⟨_, _, a0 _ _ _ _, ⟨_, _, a1 _ _ _ _, ⟨_, _, a2 _ _ _ _, rfl, rfl⟩, rfl⟩, rfl⟩
  · intro j t r hj hr
    match j with
    | 0 =>
      obtain rfl : 4 = t := Option.some.inj hj
      obtain rfl : Value.bool true = r := Option.some.inj hr
      exact okWide_bool_mk Try.underlying4 _
    | j + 1 => exact absurd hj (by simp [Try.f3])

theorem row : Rows.LazyQuietSaid :=
  OpenClaim.holds_of_wide 3 Try.f3 rfl rfl rfl rfl rfl rfl rfl ⟨rfl, rfl, rfl, rfl, rfl⟩ rfl rfl rfl rfl rfl (by kernel_rfl) Try.func3 (by kernel_rfl)
    (of_decide_eq_true (by kernel_rfl)) (by unfold Func.isWrapper; first | (rw [if_pos (by decide +kernel)]; kernel_rfl) | (rw [if_neg (by decide +kernel)]; exact ⟨rfl, rfl⟩))
    (fun os started H enc _ => lifted os started H enc)
end Go.Proofs.Ytnockichpnaoeaa.Ew.Cd3
namespace Go.Proofs.Ytnockichpnaoeaa
/-- The statement. -/
theorem lazyQuiet_proved : Rows.LazyQuietSaid := Ew.Cd3.row
#print axioms lazyQuiet_proved
end Go.Proofs.Ytnockichpnaoeaa
