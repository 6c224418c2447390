/- Layer 17: QueueSplits: for every input that the row admits the law's function returns true, and the input reads afterwards as it did. -/
import Derived.Test.YtmolkkphnehgcaaSb
import Derived.Test.YtmolkkphnehgcaaWar
import Derived.Test.YtmolkkphnehgcaaRows
set_option linter.unusedVariables false
set_option linter.unusedSimpArgs false
namespace Go.Proofs.Ytmolkkphnehgcaa.Ew.Cd11
open Go Go.RowKit Go.ChangeShapes Go.WideShapes Go.Proofs.Ytmolkkphnehgcaa.Ew Go.Proofs.Ytmolkkphnehgcaa.Ew.Ar

theorem own : ownKnob Try.prog.godebug = none := by kernel_rfl

set_option maxHeartbeats 1000000 in
set_option maxRecDepth 100000 in
theorem lifted (os : Os) (started : os.Started) (H : Type) (enc : TypeId × Value → H) :
    ReturnsInHanded {} Try.checked os 11 .any (Rows.queueSplitsSpec.pre6 enc Try.prog Try.f11 Rows.queueSplitsRow.domain false) (Rows.queueSplitsSpec.post enc Try.prog Try.f11 false true false false) := by
  refine returnsInHanded_of_change (C := Try.checked) own started (by kernel_rfl) Try.func11
    (ChangeSpec.witness6 (enc := enc) (C := Try.checked) false ⟨#[], #[.int .i64 0, .slice none 0 0, .int .i64 0, .int .i64 0], []⟩ 8 (by kernel_rfl) (by kernel_rfl) (by kernel_rfl) (by kernel_rfl)) ?_
  intro W base args ds gs before hval0 hW _ _
  have hval : ∀ (j : Nat) t v, Try.f11.params[j]? = some t → args[j]? = some v → Value.okWide Try.prog W .any base t v := hval0
  have hW' := hW
  obtain ⟨p, q, hA0, hV, rfl, _, _⟩ := hW
  have hA : DataW.TrodAll enc Try.prog W 0 (fun _ => true) true Try.f11.params.toList args.toList ds p := hA0
  rw [Try.params11] at hA hval
  obtain ⟨rfl, rfl⟩ := trodVars_none hV
  obtain ⟨vs, hvs⟩ : ∃ vs, args.toList = vs := ⟨_, rfl⟩
  have hargs : args = vs.toArray := by rw [← hvs]
  rw [hvs] at hA
  obtain ⟨v0, vs0, d0, ds0, p0, q0, e0, f0, g0, h0, hA⟩ := trodAll_cons hA
  obtain ⟨v1, vs1, d1, ds1, p1, q1, e1, f1, g1, h1, hA⟩ := trodAll_cons hA
  obtain ⟨v2, vs2, d2, ds2, p2, q2, e2, f2, g2, h2, hA⟩ := trodAll_cons hA
  obtain ⟨v3, vs3, d3, ds3, p3, q3, e3, f3, g3, h3, hA⟩ := trodAll_cons hA
  obtain ⟨ev, ed, ep⟩ := trodAll_nil hA
  subst ev ed ep e3 f3 g3 e2 f2 g2 e1 f1 g1 e0 f0 g0
  subst hargs
  have w0 := hval 0 3 v0 (by simp) (by simp)
  obtain ⟨z0, rfl, hz0, rfl, a0⟩ := int_open Try.underlying3 w0 h0
  have w1 := hval 1 22 v1 (by simp) (by simp)
  obtain ⟨hd, rows, rfl, hsh, hro, hle, a1⟩ := slice_open (ks := actK) Try.underlying22 (by kernel_rfl) (by kernel_rfl) (by decide) w1 h1
  have w2 := hval 2 3 v2 (by simp) (by simp)
  obtain ⟨z2, rfl, hz2, rfl, a2⟩ := int_open Try.underlying3 w2 h2
  have w3 := hval 3 3 v3 (by simp) (by simp)
  obtain ⟨z3, rfl, hz3, rfl, a3⟩ := int_open Try.underlying3 w3 h3
  have hln : (rows.length : Int) ≤ 9223372036854775807 := by unfold maxLen at hle; omega
  have hlw : IntKind.i64.wrap (rows.length : Int) = (rows.length : Int) := i64w (by omega) (by omega)
  have hcall : Calls Try.prog 11 #[.int .i64 z0, hd.sl rows.length, .int .i64 z2, .int .i64 z3] W fun en W' => en = .returned (.bool true) ∧ Below W.heap.size W W' := by
    refine call_true (e := e11) ok11 (xs := [z0, cd rows, z2, z3]) ⟨hz0, rfl, hz2, hz3, trivial⟩ (by show rowsOK actK (dc (cd rows)) ∧ ((dc (cd rows)).length : Int) ≤ _; rw [dc_cd]; exact ⟨hro, hln⟩) rfl rfl (hs := fun _ => hd) ?_ ?_
    · show (#[Value.int .i64 (IntKind.i64.wrap z0), hd.sl (IntKind.i64.wrap ((dc (cd rows)).length : Int)).toNat, Value.int .i64 (IntKind.i64.wrap z2), Value.int .i64 (IntKind.i64.wrap z3)] : Array Value) = _
      rw [dc_cd, hlw, Int.toNat_natCast, hz0, hz2, hz3]
    · exact relE_cons (isCd_cd rows) (by show IntKind.i64.wrap ((dc (cd rows)).length : Int) = ((dc (cd rows)).length : Int); rw [dc_cd]; exact hlw) (by show ShL _ _ _ _ (dc (cd rows)); rw [dc_cd]; exact hsh) relE_nil
  refine hcall.mono fun en W' ⟨he, hb⟩ => ⟨.bool true, he, post_below (pa := [] ++ (p1 ++ ([] ++ ([] ++ ([]))))) (pv := []) hW' (fun b sp hdl => trodAll_mk1 (shut_bool Try.underlying4 _)) (fun sp hold => ?_) (fun _ _ => rfl) rfl hb ?_⟩
  · exact ⟨_, _, a0 _ _ _ _, ⟨_, _, a1 W' sp hb fun q hq => hold q (by simp only [List.mem_append]; first | exact Or.inl hq | exact Or.inl (Or.inl hq) | exact Or.inl (Or.inr hq) | exact Or.inl (Or.inr (Or.inl hq)) | exact Or.inl (Or.inr (Or.inr (Or.inl hq)))), ⟨_, _, a2 _ _ _ _, ⟨_, _, a3 _ _ _ _, rfl, rfl⟩, rfl⟩, rfl⟩, rfl⟩
  · intro j t r hj hr
    match j with
    | 0 =>
      obtain rfl : 4 = t := Option.some.inj hj
      obtain rfl : Value.bool true = r := Option.some.inj hr
      exact okWide_bool_mk Try.underlying4 _
    | j + 1 => exact absurd hj (by simp [Try.f11])

theorem row : Rows.QueueSplitsSaid :=
  OpenClaim.holds_of_wide 11 Try.f11 rfl rfl rfl rfl rfl rfl rfl ⟨rfl, rfl, rfl, rfl, rfl⟩ rfl rfl rfl rfl rfl (by kernel_rfl) Try.func11 (by kernel_rfl)
    (of_decide_eq_true (by kernel_rfl)) (by unfold Func.isWrapper; first | (rw [if_pos (by decide +kernel)]; kernel_rfl) | (rw [if_neg (by decide +kernel)]; exact ⟨rfl, rfl⟩))
    (fun os started H enc _ => lifted os started H enc)
end Go.Proofs.Ytmolkkphnehgcaa.Ew.Cd11
namespace Go.Proofs.Ytmolkkphnehgcaa
/-- The statement. -/
theorem queueSplits_proved : Rows.QueueSplitsSaid := Ew.Cd11.row
#print axioms queueSplits_proved
end Go.Proofs.Ytmolkkphnehgcaa
