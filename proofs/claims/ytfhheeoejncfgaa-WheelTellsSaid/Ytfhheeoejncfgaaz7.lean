/- Layer 18: WheelTells: for every input that the row admits the law's function returns true, and the input reads afterwards as it did. -/
import Derived.Test.Ytfhheeoejncfgaaz6
import Derived.Test.YtfhheeoejncfgaaRows
set_option linter.unusedVariables false
set_option linter.unusedSimpArgs false
namespace Go.Proofs.Ytfhheeoejncfgaa.Ew.Cd7
open Go Go.RowKit Go.ChangeShapes Go.WideShapes Go.Proofs.Ytfhheeoejncfgaa.Ew Go.Proofs.Ytfhheeoejncfgaa.Ew.Ar
theorem own : ownKnob Try.prog.godebug = none := by kernel_rfl
set_option maxHeartbeats 1000000 in
set_option maxRecDepth 100000 in
theorem YU (os : Os) (started : os.Started) (H : Type) (enc : TypeId × Value -> H) :
 ReturnsInHanded {} Try.checked os 7 .any (Rows.wheelTellsSpec.pre6 enc Try.prog Try.f7 Rows.wheelTellsRow.domain false) (Rows.wheelTellsSpec.post enc Try.prog Try.f7 false true false false) := by
 refine returnsInHanded_of_change (C := Try.checked) own started (by kernel_rfl) Try.func7
  (ChangeSpec.witness6 (enc := enc) (C := Try.checked) false ⟨#[], #[.int .i64 0, .int .i64 0, .int .i64 0, .slice none 0 0], []⟩ 8 (by kernel_rfl) (by kernel_rfl) (by kernel_rfl) (by kernel_rfl)) ?_
 intro W base args ds gs before hval0 hW _ _
 have hval : ∀ (j : Nat) t v, Try.f7.params[j]? = some t -> args[j]? = some v -> Value.okWide Try.prog W .any base t v := hval0
 have hW' := hW
 obtain ⟨p, q, hA0, hV, rfl, _, _⟩ := hW
 have hA : DataW.TrodAll enc Try.prog W 0 (fun _ => true) true Try.f7.params.toList args.toList ds p := hA0
 rw [Try.params7] at hA hval
 obtain ⟨rfl, rfl⟩ := trodVars_none hV
 obtain ⟨vs, hvs⟩ : ∃ vs, args.toList = vs := ⟨_, rfl⟩
 have hargs : args = vs.toArray := by rw [<- hvs]
 rw [hvs] at hA
 obtain ⟨v0, vs0, d0, ds0, p0, q0, e0, f0, g0, h0, hA⟩ := trodAll_cons hA
 obtain ⟨v1, vs1, d1, ds1, p1, q1, e1, f1, g1, h1, hA⟩ := trodAll_cons hA
 obtain ⟨v2, vs2, d2, ds2, p2, q2, e2, f2, g2, h2, hA⟩ := trodAll_cons hA
 obtain ⟨v3, vs3, d3, ds3, p3, q3, e3, f3, g3, h3, hA⟩ := trodAll_cons hA
 obtain ⟨ev, ed, ep⟩ := trodAll_nil hA
 subst ev ed ep e3 f3 g3 e2 f2 g2 e1 f1 g1 e0 f0 g0
 subst hargs
 have w0 := hval 0 3 v0 (by simp) (by simp)
 obtain ⟨z0, rfl, hz0, rfl, a0⟩ := Mh Try.underlying3 w0 h0
 have w1 := hval 1 3 v1 (by simp) (by simp)
 obtain ⟨z1, rfl, hz1, rfl, a1⟩ := Mh Try.underlying3 w1 h1
 have w2 := hval 2 3 v2 (by simp) (by simp)
 obtain ⟨z2, rfl, hz2, rfl, a2⟩ := Mh Try.underlying3 w2 h2
 have w3 := hval 3 37 v3 (by simp) (by simp)
 obtain ⟨hd3, rows3, rfl, hsh3, hro3, hle3, a3⟩ := TP (ks := actK) Try.underlying37 (by kernel_rfl) (by kernel_rfl) (by decide) w3 h3
 have hln3 : (rows3.length : Int) <= 9223372036854775807 := by unfold maxLen at hle3; omega
 have hlw3 : IntKind.i64.wrap (rows3.length : Int) = (rows3.length : Int) := i64w (by omega) (by omega)
 have hcall : Calls Try.prog 7 #[.int .i64 z0, .int .i64 z1, .int .i64 z2, hd3.sl rows3.length] W fun en W' => en = .returned (.bool true) /\ Below W.heap.size W W' := by
  refine VO (e := e7) ok7.1 (xs := [z0, z1, z2, cd rows3]) ⟨hz0, hz1, hz2, rfl, trivial⟩ (by show rowsOK actK (dc (cd rows3)) /\ ((dc (cd rows3)).length : Int) <= _; rw [Af]; exact ⟨hro3, hln3⟩) rfl rfl (hs := fun _ => hd3) ?_ ?_
  ·show (#[Value.int .i64 (IntKind.i64.wrap z0), Value.int .i64 (IntKind.i64.wrap z1), Value.int .i64 (IntKind.i64.wrap z2), hd3.sl (IntKind.i64.wrap ((dc (cd rows3)).length : Int)).toNat] : Array Value) = _
   rw [Af, hlw3, Int.toNat_natCast, hz0, hz1, hz2]
  ·exact VP (A0 rows3) (by show IntKind.i64.wrap ((dc (cd rows3)).length : Int) = ((dc (cd rows3)).length : Int); rw [Af]; exact hlw3) (by show ShL _ _ _ _ (dc (cd rows3)); rw [Af]; exact hsh3) (Wy)
 refine hcall.mono fun en W' ⟨he, hb⟩ => ⟨.bool true, he, TQ (pa := [] ++ ([] ++ ([] ++ (p3 ++ ([]))))) (pv := []) hW' (fun b sp hdl => trodAll_mk1 (shut_bool Try.underlying4 _)) (fun sp hold => ?_) (fun _ _ => rfl) rfl hb ?_⟩
 ·exact ⟨_, _, a0 _ _ _ _, ⟨_, _, a1 _ _ _ _, ⟨_, _, a2 _ _ _ _, ⟨_, _, a3 W' sp hb fun q hq => hold q (by simp only [List.mem_append]; first | exact Or.inl hq | exact Or.inl (Or.inl hq) | exact Or.inl (Or.inr hq) | exact Or.inl (Or.inr (Or.inl hq)) | exact Or.inl (Or.inr (Or.inr (Or.inl hq))) | exact Or.inl (Or.inr (Or.inr (Or.inr (Or.inl hq))))), rfl, rfl⟩, rfl⟩, rfl⟩, rfl⟩
 ·intro j t r hj hr
  match j with
  | 0 =>
    obtain rfl : 4 = t := Option.some.inj hj
    obtain rfl : Value.bool true = r := Option.some.inj hr
    exact okWide_bool_mk Try.underlying4 _
  | j + 1 => exact absurd hj (by simp [Try.f7])
theorem row : Rows.WheelTellsSaid :=
 OpenClaim.holds_of_wide 7 Try.f7 rfl rfl rfl rfl rfl rfl rfl ⟨rfl, rfl, rfl, rfl, rfl⟩ rfl rfl rfl rfl rfl (by kernel_rfl) Try.func7 (by kernel_rfl)
  (of_decide_eq_true (by kernel_rfl)) (by unfold Func.isWrapper; first | (rw [if_pos (by decide +kernel)]; kernel_rfl) | (rw [if_neg (by decide +kernel)]; exact ⟨rfl, rfl⟩))
  (fun os started H enc _ => YU os started H enc)
end Go.Proofs.Ytfhheeoejncfgaa.Ew.Cd7
namespace Go.Proofs.Ytfhheeoejncfgaa
theorem wheelTells_proved : Rows.WheelTellsSaid := Ew.Cd7.row
#print axioms wheelTells_proved
end Go.Proofs.Ytfhheeoejncfgaa
