/- Layer 19: LazyExact: for every input that the row admits the law's function returns true, and the input reads afterwards as it did. -/
import Derived.Test.Ytnockichpnaoeaau6
import Derived.Test.YtnockichpnaoeaaRows
set_option linter.unusedVariables false
set_option linter.unusedSimpArgs false
namespace Go.Proofs.Ytnockichpnaoeaa.Ew.Cd9
open Go Go.RowKit Go.ChangeShapes Go.WideShapes Go.Proofs.Ytnockichpnaoeaa.Ew Go.Proofs.Ytnockichpnaoeaa.Ew.Ar
theorem own : ownKnob Try.prog.godebug = none := by kernel_rfl
set_option maxHeartbeats 1000000 in
set_option maxRecDepth 100000 in
theorem XE (os : Os) (started : os.Started) (H : Type) (enc : TypeId × Value -> H) :
 ReturnsInHanded {} Try.checked os 9 .any (Rows.lazyExactSpec.pre6 enc Try.prog Try.f9 Rows.lazyExactRow.domain false) (Rows.lazyExactSpec.post enc Try.prog Try.f9 false true false false) := by
 refine returnsInHanded_of_change (C := Try.checked) own started (by kernel_rfl) Try.func9
  (ChangeSpec.witness6 (enc := enc) (C := Try.checked) false ⟨#[], #[.agg #[.int .i64 0, .int .i64 0, .int .i64 0], .slice none 0 0], []⟩ 8 (by kernel_rfl) (by kernel_rfl) (by kernel_rfl) (by kernel_rfl)) ?_
 intro W base args ds gs before hval0 hW _ _
 have hval : ∀ (j : Nat) t v, Try.f9.params[j]? = some t -> args[j]? = some v -> Value.okWide Try.prog W .any base t v := hval0
 have hW' := hW
 obtain ⟨p, q, hA0, hV, rfl, _, _⟩ := hW
 have hA : DataW.TrodAll enc Try.prog W 0 (fun _ => true) true Try.f9.params.toList args.toList ds p := hA0
 rw [Try.params9] at hA hval
 obtain ⟨rfl, rfl⟩ := trodVars_none hV
 obtain ⟨vs, hvs⟩ : ∃ vs, args.toList = vs := ⟨_, rfl⟩
 have hargs : args = vs.toArray := by rw [<- hvs]
 rw [hvs] at hA
 obtain ⟨v0, vs0, d0, ds0, p0, q0, e0, f0, g0, h0, hA⟩ := trodAll_cons hA
 obtain ⟨v1, vs1, d1, ds1, p1, q1, e1, f1, g1, h1, hA⟩ := trodAll_cons hA
 obtain ⟨ev, ed, ep⟩ := trodAll_nil hA
 subst ev ed ep e1 f1 g1 e0 f0 g0
 subst hargs
 have w0 := hval 0 35 v0 (by simp) (by simp)
 obtain ⟨xs0, rfl, hz0, rfl, a0⟩ := VC (ks := [.i .i64, .i .i64, .i .i64]) Try.underlying35 (by kernel_rfl) w0 h0
 obtain ⟨z0_0, r0_0, hx0_0, k0_0, hf0_0⟩ := Aa hz0
 obtain ⟨z0_1, r0_1, hx0_1, k0_1, hf0_1⟩ := Aa hf0_0
 obtain ⟨z0_2, r0_2, hx0_2, k0_2, hf0_2⟩ := Aa hf0_1
 have hxn0 := AV hf0_2
 subst hxn0 hx0_2 hx0_1 hx0_0
 have w1 := hval 1 41 v1 (by simp) (by simp)
 obtain ⟨hd1, rows1, rfl, hsh1, hro1, hle1, a1⟩ := Sr (ks := actK) Try.underlying41 (by kernel_rfl) (by kernel_rfl) (by decide) w1 h1
 have hln1 : (rows1.length : Int) <= 9223372036854775807 := by unfold maxLen at hle1; omega
 have hlw1 : IntKind.i64.wrap (rows1.length : Int) = (rows1.length : Int) := i64w (by omega) (by omega)
 have hcall : Calls Try.prog 9 #[.agg (vals [.i .i64, .i .i64, .i .i64] [z0_0, z0_1, z0_2]).toArray, hd1.sl rows1.length] W fun en W' => en = .returned (.bool true) /\ Below W.heap.size W W' := by
  refine UM (e := z9) okz9.1 (xs := [z0_0, z0_1, z0_2, cd rows1]) ⟨k0_0, k0_1, k0_2, rfl, trivial⟩ (by show rowsOK actK (dc (cd rows1)) /\ ((dc (cd rows1)).length : Int) <= _; rw [Ac]; exact ⟨hro1, hln1⟩) rfl rfl (hs := fun _ => hd1) ?_ ?_
  ·show (#[Value.agg #[K.val kJ (K.norm kJ z0_0), K.val kJ (K.norm kJ z0_1), K.val kJ (K.norm kJ z0_2)], hd1.sl (IntKind.i64.wrap ((dc (cd rows1)).length : Int)).toNat] : Array Value) = _
   rw [Ac, hlw1, Int.toNat_natCast, k0_0, k0_1, k0_2]
   rfl
  ·exact UN (Bb rows1) (by show IntKind.i64.wrap ((dc (cd rows1)).length : Int) = ((dc (cd rows1)).length : Int); rw [Ac]; exact hlw1) (by show ShL _ _ _ _ (dc (cd rows1)); rw [Ac]; exact hsh1) (VD)
 refine hcall.mono fun en W' ⟨he, hb⟩ => ⟨.bool true, he, Ss (pa := [] ++ (p1 ++ ([]))) (pv := []) hW' (fun b sp hdl => trodAll_mk1 (shut_bool Try.underlying4 _)) (fun sp hold => ?_) (fun _ _ => rfl) rfl hb ?_⟩
 ·exact ⟨_, _, a0 _ _ _ _, ⟨_, _, a1 W' sp hb fun q hq => hold q (by simp only [List.mem_append]; first | exact Or.inl hq | exact Or.inl (Or.inl hq) | exact Or.inl (Or.inr hq) | exact Or.inl (Or.inr (Or.inl hq)) | exact Or.inl (Or.inr (Or.inr (Or.inl hq))) | exact Or.inl (Or.inr (Or.inr (Or.inr (Or.inl hq))))), rfl, rfl⟩, rfl⟩
 ·intro j t r hj hr
  match j with
  | 0 =>
    obtain rfl : 4 = t := Option.some.inj hj
    obtain rfl : Value.bool true = r := Option.some.inj hr
    exact okWide_bool_mk Try.underlying4 _
  | j + 1 => exact absurd hj (by simp [Try.f9])
theorem row : Rows.LazyExactSaid :=
 OpenClaim.holds_of_wide 9 Try.f9 rfl rfl rfl rfl rfl rfl rfl ⟨rfl, rfl, rfl, rfl, rfl⟩ rfl rfl rfl rfl rfl (by kernel_rfl) Try.func9 (by kernel_rfl)
  (of_decide_eq_true (by kernel_rfl)) (by unfold Func.isWrapper; first | (rw [if_pos (by decide +kernel)]; kernel_rfl) | (rw [if_neg (by decide +kernel)]; exact ⟨rfl, rfl⟩))
  (fun os started H enc _ => XE os started H enc)
end Go.Proofs.Ytnockichpnaoeaa.Ew.Cd9
namespace Go.Proofs.Ytnockichpnaoeaa
theorem lazyExact_proved : Rows.LazyExactSaid := Ew.Cd9.row
#print axioms lazyExact_proved
end Go.Proofs.Ytnockichpnaoeaa
