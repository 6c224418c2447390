/- Layer 19: LazyWrong: for every input that the row admits the law's function returns true, and the input reads afterwards as it did. -/
import Derived.Test.YtnockichpnaoeaaLk
import Derived.Test.YtnockichpnaoeaaWar
import Derived.Test.YtnockichpnaoeaaRows
set_option linter.unusedVariables false
set_option linter.unusedSimpArgs false
namespace Go.Proofs.Ytnockichpnaoeaa.Ew.Cd4
open Go Go.RowKit Go.ChangeShapes Go.WideShapes Go.Proofs.Ytnockichpnaoeaa.Ew Go.Proofs.Ytnockichpnaoeaa.Ew.Ar

theorem own : ownKnob Try.prog.godebug = none := by kernel_rfl

set_option maxHeartbeats 1000000 in
set_option maxRecDepth 100000 in
theorem lifted (os : Os) (started : os.Started) (H : Type) (enc : TypeId × Value → H) :
    ReturnsInHanded {} Try.checked os 4 .any (Rows.lazyWrongSpec.pre6 enc Try.prog Try.f4 Rows.lazyWrongRow.domain false) (Rows.lazyWrongSpec.post enc Try.prog Try.f4 false true false false) := by
  refine returnsInHanded_of_change (C := Try.checked) own started (by kernel_rfl) Try.func4
    (ChangeSpec.witness6 (enc := enc) (C := Try.checked) false ⟨#[], #[.agg #[.int .i64 0, .int .i64 0, .int .i64 0], .int .i64 0], []⟩ 8 (by kernel_rfl) (by kernel_rfl) (by kernel_rfl) (by kernel_rfl)) ?_
  intro W base args ds gs before hval0 hW _ _
  have hval : ∀ (j : Nat) t v, Try.f4.params[j]? = some t → args[j]? = some v → Value.okWide Try.prog W .any base t v := hval0
  have hW' := hW
  obtain ⟨p, q, hA0, hV, rfl, _, _⟩ := hW
  have hA : DataW.TrodAll enc Try.prog W 0 (fun _ => true) true Try.f4.params.toList args.toList ds p := hA0
  rw [Try.params4] at hA hval
  obtain ⟨rfl, rfl⟩ := trodVars_none hV
  obtain ⟨vs, hvs⟩ : ∃ vs, args.toList = vs := ⟨_, rfl⟩
  have hargs : args = vs.toArray := by rw [← hvs]
  rw [hvs] at hA
  obtain ⟨v0, vs0, d0, ds0, p0, q0, e0, f0, g0, h0, hA⟩ := trodAll_cons hA
  obtain ⟨v1, vs1, d1, ds1, p1, q1, e1, f1, g1, h1, hA⟩ := trodAll_cons hA
  obtain ⟨ev, ed, ep⟩ := trodAll_nil hA
  subst ev ed ep e1 f1 g1 e0 f0 g0
  subst hargs
  have w0 := hval 0 35 v0 (by simp) (by simp)
  obtain ⟨xs0, rfl, hz0, rfl, a0⟩ := agg_open (ks := [.i .i64, .i .i64, .i .i64]) Try.underlying35 (by kernel_rfl) w0 h0
  obtain ⟨z0_0, r0_0, hx0_0, k0_0, hf0_0⟩ := fits_cons hz0
  obtain ⟨z0_1, r0_1, hx0_1, k0_1, hf0_1⟩ := fits_cons hf0_0
  obtain ⟨z0_2, r0_2, hx0_2, k0_2, hf0_2⟩ := fits_cons hf0_1
  have hxn0 := fits_nil hf0_2
  subst hxn0 hx0_2 hx0_1 hx0_0
  have w1 := hval 1 3 v1 (by simp) (by simp)
  obtain ⟨z1, rfl, hz1, rfl, a1⟩ := int_open Try.underlying3 w1 h1
  have hcall : Calls Try.prog 4 #[.agg (vals [.i .i64, .i .i64, .i .i64] [z0_0, z0_1, z0_2]).toArray, .int .i64 z1] W fun en W' => en = .returned (.bool true) ∧ Below W.heap.size W W' := by
    refine call_true (e := z4) okz4.1 (xs := [z0_0, z0_1, z0_2, z1]) ⟨k0_0, k0_1, k0_2, hz1, trivial⟩ trivial rfl rfl (hs := fun _ => default) ?_ ?_
    · show (#[Value.agg #[K.val (.i .i64) (K.norm (.i .i64) z0_0), K.val (.i .i64) (K.norm (.i .i64) z0_1), K.val (.i .i64) (K.norm (.i .i64) z0_2)], Value.int .i64 (IntKind.i64.wrap z1)] : Array Value) = _
      rw [k0_0, k0_1, k0_2, hz1]
      rfl
    · exact relE_nil
  refine hcall.mono fun en W' ⟨he, hb⟩ => ⟨.bool true, he, post_below (pa := [] ++ ([] ++ ([]))) (pv := []) hW' (fun b sp hdl => trodAll_mk1 (shut_bool Try.underlying4 _)) (fun sp hold => ?_) (fun _ _ => rfl) rfl hb ?_⟩
  · exact ⟨_, _, a0 _ _ _ _, ⟨_, _, a1 _ _ _ _, rfl, rfl⟩, rfl⟩
  · intro j t r hj hr
    match j with
    | 0 =>
      obtain rfl : 4 = t := Option.some.inj hj
      obtain rfl : Value.bool true = r := Option.some.inj hr
      exact okWide_bool_mk Try.underlying4 _
    | j + 1 => exact absurd hj (by simp [Try.f4])

theorem row : Rows.LazyWrongSaid :=
  OpenClaim.holds_of_wide 4 Try.f4 rfl rfl rfl rfl rfl rfl rfl ⟨rfl, rfl, rfl, rfl, rfl⟩ rfl rfl rfl rfl rfl (by kernel_rfl) Try.func4 (by kernel_rfl)
    (of_decide_eq_true (by kernel_rfl)) (by unfold Func.isWrapper; first | (rw [if_pos (by decide +kernel)]; kernel_rfl) | (rw [if_neg (by decide +kernel)]; exact ⟨rfl, rfl⟩))
    (fun os started H enc _ => lifted os started H enc)
end Go.Proofs.Ytnockichpnaoeaa.Ew.Cd4
namespace Go.Proofs.Ytnockichpnaoeaa
/-- The statement. -/
theorem lazyWrong_proved : Rows.LazyWrongSaid := Ew.Cd4.row
#print axioms lazyWrong_proved
end Go.Proofs.Ytnockichpnaoeaa
