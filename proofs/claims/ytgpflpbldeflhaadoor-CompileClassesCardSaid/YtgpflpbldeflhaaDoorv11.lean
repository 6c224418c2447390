/- Layer 28: CompileClasses: for every input that the row admits the law's function returns true, and the input reads afterwards as it did; and its card. -/
import Derived.Test.YtgpflpbldeflhaaDoorv10
set_option linter.unusedVariables false
set_option linter.unusedSimpArgs false
namespace Go.Proofs.YtgpflpbldeflhaaDoor.Ew.Cd7
open Go Go.RowKit Go.ChangeShapes Go.WideShapes Go.ChangeAt Go.Proofs.YtgpflpbldeflhaaDoor.Ew Go.Proofs.YtgpflpbldeflhaaDoor.Ew.Ar Go.Proofs.YtgpflpbldeflhaaDoor.Ew.Sr
set_option maxHeartbeats 2000000 in
set_option maxRecDepth 100000 in
theorem Sd (os : Os) (started : os.Started) (H : Type) (enc : TypeId × Value -> H) :
 ReturnsInHanded {} Tryd.checked os 7 .any (fun w args => (Rows.compileClassesSpec.pre enc Tryd.prog Tryd.f7 Rows.compileClassesRow.domain false w args /\ laidMetH Tryd.prog Fg w) /\ sizedMet enc Tryd.prog Tryd.f7 (OpenSpec.ofChange Rows.compileClassesSpec) false w args)
  (Rows.compileClassesSpec.post enc Tryd.prog Tryd.f7 false true false false) := by
 refine returnsInHanded_of_change_and (C := Tryd.checked) (X := fun w _ => laidMetH Tryd.prog Fg w) (fun _ _ _ hh h => h.of_heap hh) own started (by kernel_rfl) Tryd.func7
  (ChangeSpec.witness_shaped (enc := enc) (C := Tryd.checked) (os := os) (X := fun w _ => laidMetH Tryd.prog Fg w) false (World.laidAll Tryd.prog os Fg) #[.slice none 0 0] 12 (World.laidAll_os _ _ _)
   (World.shaped_of_ZipB (by kernel_rfl) (by kernel_rfl)) (by kernel_rfl) (by kernel_rfl) (by kernel_rfl) (Qi os _)) ?_
 intro W base args ds gs before hval0 hW hc _ hL _
 have hval : ∀ (j : Nat) t v, Tryd.f7.params[j]? = some t -> args[j]? = some v -> Value.okWide Tryd.prog W .any base t v := hval0
 have hW' := hW
 obtain ⟨p, q, hA0, hV, rfl, _, _⟩ := hW
 have hA : DataW.TrodAll enc Tryd.prog W 0 (fun _ => true) true Tryd.f7.params.toList args.toList ds p := hA0
 rw [Tryd.params7] at hA hval
 obtain ⟨rfl, rfl⟩ := trodVars_none hV
 obtain ⟨vs, hvs⟩ : ∃ vs, args.toList = vs := ⟨_, rfl⟩
 have hargs : args = vs.toArray := by rw [<- hvs]
 rw [hvs] at hA
 obtain ⟨v0, vs0, d0, ds0, p0, q0, e0, f0, g0, h0, hA⟩ := trodAll_cons hA
 obtain ⟨ev, ed, ep⟩ := trodAll_nil hA
 subst ev ed ep e0 f0 g0
 subst hargs
 have w0 := hval 0 50 v0 (by simp) (by simp)
 obtain ⟨hd0, rows0, rfl, hsh0, hro0, hle0, a0⟩ := MS (ks := smK) Tryd.underlying50 (by kernel_rfl) (by kernel_rfl) (by decide) w0 h0
 have hln0 : (rows0.length : Int) <= 9223372036854775807 := by unfold maxLen at hle0; omega
 have hlw0 : IntKind.i64.wrap (rows0.length : Int) = (rows0.length : Int) := i64w (by omega) (by omega)
 have hcall : Calls Tryd.prog 7 #[hd0.sl rows0.length] W fun en W' => en = .returned (.bool true) /\ Below W.heap.size W W' := by
  refine Nc (e := e7) ok7.1 (Lp hL) (xs := [cd rows0]) ⟨rfl, trivial⟩ (by show Ad smK (dc (cd rows0)) /\ ((dc (cd rows0)).length : Int) <= _; rw [Ac]; exact ⟨hro0, hln0⟩) rfl rfl (hs := fun _ => hd0) ?_ ?_
  ·show (#[hd0.sl (IntKind.i64.wrap ((dc (cd rows0)).length : Int)).toNat] : Array Value) = _
   have zn : ∀ (ks : List K) (zs : List Int), fits ks zs -> List.zipWith K.norm ks zs = zs := JB
   rw [Ac, hlw0, Int.toNat_natCast]
  ·exact Ow (El rows0) (by show IntKind.i64.wrap ((dc (cd rows0)).length : Int) = ((dc (cd rows0)).length : Int); rw [Ac]; exact hlw0) (by show ShL _ _ _ _ (dc (cd rows0)); rw [Ac]; exact hsh0) (P9)
 refine hcall.mono fun en W' ⟨he, hb⟩ => ⟨.bool true, he, MT (pa := p0 ++ ([])) (pv := []) hW' (fun b sp hdl => trodAll_mk1 (shut_bool Tryd.underlying4 _)) (fun sp hold => ?_) (fun _ _ => rfl) rfl hb ?_⟩
 ·exact ⟨_, _, a0 W' sp hb fun q hq => hold q (by simp only [List.mem_append]; first | exact Or.inl hq | exact Or.inl (Or.inl hq) | exact Or.inl (Or.inr hq) | exact Or.inl (Or.inr (Or.inl hq)) | exact Or.inl (Or.inr (Or.inr (Or.inl hq)))), rfl, rfl⟩
 ·intro j t r hj hr
  match j with
  | 0 =>
    obtain rfl : 4 = t := Option.some.inj hj
    obtain rfl : Value.bool true = r := Option.some.inj hr
    exact okWide_bool_mk Tryd.underlying4 _
  | j + 1 => exact absurd hj (by simp [Tryd.f7])
theorem row : Rows.CompileClassesSaid :=
 OpenClaim.holds_of_wide 7 Tryd.f7 rfl rfl rfl rfl rfl rfl rfl ⟨rfl, rfl, rfl, rfl, rfl⟩ rfl rfl rfl rfl rfl (by kernel_rfl) Tryd.func7 (by kernel_rfl)
  (of_decide_eq_true (by kernel_rfl)) (by unfold Func.isWrapper; first | (rw [if_pos (by decide +kernel)]; kernel_rfl) | (rw [if_neg (by decide +kernel)]; exact ⟨rfl, rfl⟩))
  (fun os started H enc _ => Sd os started H enc)
theorem proved : Rows.CompileClassesCardSaid :=
 Claim7.holds_tied_plain_at .later [] [.data, .data, .widerDeep] true (true, "147a168b2cef69ca9cbcb93f052d9566e45e0c97b9ce6d0143d5b45d70c3c2bc") false row (fun _ h => by cases h) (by kernel_rfl) (fun _ h => by cases h) Ek rfl ⟨rfl, rfl⟩ (by kernel_rfl) rfl
  (fun f fn hf hfn => by
   obtain rfl : f = 7 := Option.some.inj ((show Tryd.prog.funcNamed "baffle/bafflelaw28.CompileClasses" = some 7 by kernel_rfl).symm.trans hf) |>.symm
   obtain rfl : fn = Tryd.f7 := (Option.some.inj (Tryd.func7.symm.trans hfn)).symm
   exact ⟨by kernel_rfl, fun j t ht => by
    rw [Tryd.params7] at ht
    have hm : t ∈ ([50] : List TypeId) := by simpa using Array.mem_of_getElem? ht
    have hall : (([50] : List TypeId).all fun u => !Tryd.prog.wantsStandIn u) = true := by kernel_rfl
    exact (show Tryd.prog.wantsStandIn t = false by simpa using List.all_eq_true.1 hall t hm)⟩)
  (by kernel_rfl)
end Go.Proofs.YtgpflpbldeflhaaDoor.Ew.Cd7
namespace Go.Proofs.YtgpflpbldeflhaaDoor
theorem compileClasses_proved : Rows.CompileClassesCardSaid := Ew.Cd7.proved
#print axioms compileClasses_proved
end Go.Proofs.YtgpflpbldeflhaaDoor
