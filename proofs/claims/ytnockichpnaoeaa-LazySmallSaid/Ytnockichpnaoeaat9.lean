/- Layer 19: LazyTells and LazySmall: for every input that the rows admit the laws' functions return true, and the input reads afterwards as it did. -/
import Derived.Test.Ytnockichpnaoeaat8
import Derived.Test.YtnockichpnaoeaaRows
set_option linter.unusedVariables false
set_option linter.unusedSimpArgs false
namespace Go.Proofs.Ytnockichpnaoeaa.Ew.Cd5
open Go Go.RowKit Go.ChangeShapes Go.WideShapes Go.Proofs.Ytnockichpnaoeaa.Ew Go.Proofs.Ytnockichpnaoeaa.Ew.Ar
theorem own : ownKnob Try.prog.godebug = none := by kernel_rfl
set_option maxHeartbeats 1000000 in
set_option maxRecDepth 100000 in
theorem OQ (os : Os) (started : os.Started) (H : Type) (enc : TypeId × Value -> H) :
 ReturnsInHanded {} Try.checked os 5 .any (Rows.lazyTellsSpec.pre6 enc Try.prog Try.f5 Rows.lazyTellsRow.domain false) (Rows.lazyTellsSpec.post enc Try.prog Try.f5 false true false false) := by
 refine returnsInHanded_of_change (C := Try.checked) own started (by kernel_rfl) Try.func5
  (ChangeSpec.witness6 (enc := enc) (C := Try.checked) false ⟨#[], #[.int .i64 0, .int .i64 0, .int .i64 0, .int .i64 0, .slice none 0 0], []⟩ 8 (by kernel_rfl) (by kernel_rfl) (by kernel_rfl) (by kernel_rfl)) ?_
 intro W base args ds gs before hval0 hW _ _
 have hval : ∀ (j : Nat) t v, Try.f5.params[j]? = some t -> args[j]? = some v -> Value.okWide Try.prog W .any base t v := hval0
 have hW' := hW
 obtain ⟨p, q, hA0, hV, rfl, _, _⟩ := hW
 have hA : DataW.TrodAll enc Try.prog W 0 (fun _ => true) true Try.f5.params.toList args.toList ds p := hA0
 rw [Try.params5] at hA hval
 obtain ⟨rfl, rfl⟩ := trodVars_none hV
 obtain ⟨vs, hvs⟩ : ∃ vs, args.toList = vs := ⟨_, rfl⟩
 have hargs : args = vs.toArray := by rw [<- hvs]
 rw [hvs] at hA
 obtain ⟨v0, vs0, d0, ds0, p0, q0, e0, f0, g0, h0, hA⟩ := trodAll_cons hA
 obtain ⟨v1, vs1, d1, ds1, p1, q1, e1, f1, g1, h1, hA⟩ := trodAll_cons hA
 obtain ⟨v2, vs2, d2, ds2, p2, q2, e2, f2, g2, h2, hA⟩ := trodAll_cons hA
 obtain ⟨v3, vs3, d3, ds3, p3, q3, e3, f3, g3, h3, hA⟩ := trodAll_cons hA
 obtain ⟨v4, vs4, d4, ds4, p4, q4, e4, f4, g4, h4, hA⟩ := trodAll_cons hA
 obtain ⟨ev, ed, ep⟩ := trodAll_nil hA
 subst ev ed ep e4 f4 g4 e3 f3 g3 e2 f2 g2 e1 f1 g1 e0 f0 g0
 subst hargs
 have w0 := hval 0 3 v0 (by simp) (by simp)
 obtain ⟨z0, rfl, hz0, rfl, a0⟩ := Hp Try.underlying3 w0 h0
 have w1 := hval 1 3 v1 (by simp) (by simp)
 obtain ⟨z1, rfl, hz1, rfl, a1⟩ := Hp Try.underlying3 w1 h1
 have w2 := hval 2 3 v2 (by simp) (by simp)
 obtain ⟨z2, rfl, hz2, rfl, a2⟩ := Hp Try.underlying3 w2 h2
 have w3 := hval 3 3 v3 (by simp) (by simp)
 obtain ⟨z3, rfl, hz3, rfl, a3⟩ := Hp Try.underlying3 w3 h3
 have w4 := hval 4 41 v4 (by simp) (by simp)
 obtain ⟨hd4, rows4, rfl, hsh4, hro4, hle4, a4⟩ := QJ (ks := actK) Try.underlying41 (by kernel_rfl) (by kernel_rfl) (by decide) w4 h4
 have hln4 : (rows4.length : Int) <= 9223372036854775807 := by unfold maxLen at hle4; omega
 have hlw4 : IntKind.i64.wrap (rows4.length : Int) = (rows4.length : Int) := i64w (by omega) (by omega)
 have hcall : Calls Try.prog 5 #[.int .i64 z0, .int .i64 z1, .int .i64 z2, .int .i64 z3, hd4.sl rows4.length] W fun en W' => en = .returned (.bool true) /\ Below W.heap.size W W' := by
  refine ME (e := z5) okz5.1 (xs := [z0, z1, z2, z3, cd rows4]) ⟨hz0, hz1, hz2, hz3, rfl, trivial⟩ (by show rowsOK actK (dc (cd rows4)) /\ ((dc (cd rows4)).length : Int) <= _; rw [Ab]; exact ⟨hro4, hln4⟩) rfl rfl (hs := fun _ => hd4) ?_ ?_
  ·show (#[Value.int .i64 (IntKind.i64.wrap z0), Value.int .i64 (IntKind.i64.wrap z1), Value.int .i64 (IntKind.i64.wrap z2), Value.int .i64 (IntKind.i64.wrap z3), hd4.sl (IntKind.i64.wrap ((dc (cd rows4)).length : Int)).toNat] : Array Value) = _
   rw [Ab, hlw4, Int.toNat_natCast, hz0, hz1, hz2, hz3]
  ·exact Tq (E4 rows4) (by show IntKind.i64.wrap ((dc (cd rows4)).length : Int) = ((dc (cd rows4)).length : Int); rw [Ab]; exact hlw4) (by show ShL _ _ _ _ (dc (cd rows4)); rw [Ab]; exact hsh4) (N8)
 refine hcall.mono fun en W' ⟨he, hb⟩ => ⟨.bool true, he, KS (pa := [] ++ ([] ++ ([] ++ ([] ++ (p4 ++ ([])))))) (pv := []) hW' (fun b sp hdl => trodAll_mk1 (shut_bool Try.underlying4 _)) (fun sp hold => ?_) (fun _ _ => rfl) rfl hb ?_⟩
 ·exact ⟨_, _, a0 _ _ _ _, ⟨_, _, a1 _ _ _ _, ⟨_, _, a2 _ _ _ _, ⟨_, _, a3 _ _ _ _, ⟨_, _, a4 W' sp hb fun q hq => hold q (by simp only [List.mem_append]; first | exact Or.inl hq | exact Or.inl (Or.inl hq) | exact Or.inl (Or.inr hq) | exact Or.inl (Or.inr (Or.inl hq)) | exact Or.inl (Or.inr (Or.inr (Or.inl hq))) | exact Or.inl (Or.inr (Or.inr (Or.inr (Or.inl hq)))) | exact Or.inl (Or.inr (Or.inr (Or.inr (Or.inr (Or.inl hq)))))), rfl, rfl⟩, rfl⟩, rfl⟩, rfl⟩, rfl⟩
 ·intro j t r hj hr
  match j with
  | 0 =>
    obtain rfl : 4 = t := Option.some.inj hj
    obtain rfl : Value.bool true = r := Option.some.inj hr
    exact okWide_bool_mk Try.underlying4 _
  | j + 1 => exact absurd hj (by simp [Try.f5])
theorem row : Rows.LazyTellsSaid :=
 OpenClaim.holds_of_wide 5 Try.f5 rfl rfl rfl rfl rfl rfl rfl ⟨rfl, rfl, rfl, rfl, rfl⟩ rfl rfl rfl rfl rfl (by kernel_rfl) Try.func5 (by kernel_rfl)
  (of_decide_eq_true (by kernel_rfl)) (by unfold Func.isWrapper; first | (rw [if_pos (by decide +kernel)]; kernel_rfl) | (rw [if_neg (by decide +kernel)]; exact ⟨rfl, rfl⟩))
  (fun os started H enc _ => OQ os started H enc)
end Go.Proofs.Ytnockichpnaoeaa.Ew.Cd5
namespace Go.Proofs.Ytnockichpnaoeaa
theorem lazyTells_proved : Rows.LazyTellsSaid := Ew.Cd5.row
#print axioms lazyTells_proved
end Go.Proofs.Ytnockichpnaoeaa
namespace Go.Proofs.Ytnockichpnaoeaa.Ew.Cd6
open Go Go.RowKit Go.ChangeShapes Go.WideShapes Go.Proofs.Ytnockichpnaoeaa.Ew Go.Proofs.Ytnockichpnaoeaa.Ew.Ar
theorem own : ownKnob Try.prog.godebug = none := by kernel_rfl
set_option maxHeartbeats 1000000 in
set_option maxRecDepth 100000 in
theorem OQ (os : Os) (started : os.Started) (H : Type) (enc : TypeId × Value -> H) :
 ReturnsInHanded {} Try.checked os 6 .any (Rows.lazySmallSpec.pre6 enc Try.prog Try.f6 Rows.lazySmallRow.domain false) (Rows.lazySmallSpec.post enc Try.prog Try.f6 false true false false) := by
 refine returnsInHanded_of_change (C := Try.checked) own started (by kernel_rfl) Try.func6
  (ChangeSpec.witness6 (enc := enc) (C := Try.checked) false ⟨#[], #[], []⟩ 8 (by kernel_rfl) (by kernel_rfl) (by kernel_rfl) (by kernel_rfl)) ?_
 intro W base args ds gs before hval0 hW _ _
 have hval : ∀ (j : Nat) t v, Try.f6.params[j]? = some t -> args[j]? = some v -> Value.okWide Try.prog W .any base t v := hval0
 have hW' := hW
 obtain ⟨p, q, hA0, hV, rfl, _, _⟩ := hW
 have hA : DataW.TrodAll enc Try.prog W 0 (fun _ => true) true Try.f6.params.toList args.toList ds p := hA0
 rw [Try.params6] at hA hval
 obtain ⟨rfl, rfl⟩ := trodVars_none hV
 obtain ⟨rfl, rfl, rfl⟩ := trodAll_none hA
 have hcall : Calls Try.prog 6 #[] W fun en W' => en = .returned (.bool true) /\ Below W.heap.size W W' := by
  refine ME (e := z6) okz6.1 (xs := []) trivial trivial rfl rfl (hs := fun _ => default) ?_ ?_
  ·rfl
  ·exact N8
 refine hcall.mono fun en W' ⟨he, hb⟩ => ⟨.bool true, he, KS (pa := []) (pv := []) hW' (fun b sp hdl => trodAll_mk1 (shut_bool Try.underlying4 _)) (fun sp hold => ?_) (fun _ _ => rfl) rfl hb ?_⟩
 ·exact rfl
 ·intro j t r hj hr
  match j with
  | 0 =>
    obtain rfl : 4 = t := Option.some.inj hj
    obtain rfl : Value.bool true = r := Option.some.inj hr
    exact okWide_bool_mk Try.underlying4 _
  | j + 1 => exact absurd hj (by simp [Try.f6])
theorem row : Rows.LazySmallSaid :=
 OpenClaim.holds_of_wide 6 Try.f6 rfl rfl rfl rfl rfl rfl rfl ⟨rfl, rfl, rfl, rfl, rfl⟩ rfl rfl rfl rfl rfl (by kernel_rfl) Try.func6 (by kernel_rfl)
  (of_decide_eq_true (by kernel_rfl)) (by unfold Func.isWrapper; first | (rw [if_pos (by decide +kernel)]; kernel_rfl) | (rw [if_neg (by decide +kernel)]; exact ⟨rfl, rfl⟩))
  (fun os started H enc _ => OQ os started H enc)
end Go.Proofs.Ytnockichpnaoeaa.Ew.Cd6
namespace Go.Proofs.Ytnockichpnaoeaa
theorem lazySmall_proved : Rows.LazySmallSaid := Ew.Cd6.row
#print axioms lazySmall_proved
end Go.Proofs.Ytnockichpnaoeaa
