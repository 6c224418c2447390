/- Layer 28: CompileFirst: for every input that the row admits the law's function returns true, and the input reads afterwards as it did; and its card. -/
import Derived.Test.YtgpflpbldeflhaaDoorxf10
set_option linter.unusedVariables false
set_option linter.unusedSimpArgs false
namespace Go.Proofs.YtgpflpbldeflhaaDoor.Ew.Cd10
open Go Go.RowKit Go.ChangeShapes Go.WideShapes Go.ChangeAt Go.Proofs.YtgpflpbldeflhaaDoor.Ew Go.Proofs.YtgpflpbldeflhaaDoor.Ew.Ar Go.Proofs.YtgpflpbldeflhaaDoor.Ew.Sr
set_option maxHeartbeats 2000000 in
set_option maxRecDepth 100000 in
theorem SR (os : Os) (started : os.Started) (H : Type) (enc : TypeId × Value -> H) :
 ReturnsInHanded {} Tryd.checked os 10 .any (fun w args => (Rows.compileFirstSpec.pre enc Tryd.prog Tryd.f10 Rows.compileFirstRow.domain false w args /\ laidMetH Tryd.prog Ff w) /\ sizedMet enc Tryd.prog Tryd.f10 (OpenSpec.ofChange Rows.compileFirstSpec) false w args)
  (Rows.compileFirstSpec.post enc Tryd.prog Tryd.f10 false true false false) := by
 refine returnsInHanded_of_change_and (C := Tryd.checked) (X := fun w _ => laidMetH Tryd.prog Ff w) (fun _ _ _ hh h => h.of_heap hh) own started (by kernel_rfl) Tryd.func10
  (ChangeSpec.witness_shaped (enc := enc) (C := Tryd.checked) (os := os) (X := fun w _ => laidMetH Tryd.prog Ff w) false (World.laidAll Tryd.prog os Ff) #[.slice none 0 0, .agg #[.int .u8 0, .int .u8 0, .int .u8 0, .int .u8 0, .int .u8 0, .int .u8 0, .int .u8 0, .int .u8 0, .int .u8 0, .int .u8 0, .int .u8 0, .int .u8 0, .bool false]] 12 (World.laidAll_os _ _ _)
   (World.shaped_of_ZipB (by kernel_rfl) (by kernel_rfl)) (by kernel_rfl) (by kernel_rfl) (by kernel_rfl) (QJ os _)) ?_
 intro W base args ds gs before hval0 hW hc _ hL _
 have hval : ∀ (j : Nat) t v, Tryd.f10.params[j]? = some t -> args[j]? = some v -> Value.okWide Tryd.prog W .any base t v := hval0
 have hW' := hW
 obtain ⟨p, q, hA0, hV, rfl, _, _⟩ := hW
 have hA : DataW.TrodAll enc Tryd.prog W 0 (fun _ => true) true Tryd.f10.params.toList args.toList ds p := hA0
 rw [Tryd.params10] at hA hval
 obtain ⟨rfl, rfl⟩ := trodVars_none hV
 obtain ⟨vs, hvs⟩ : ∃ vs, args.toList = vs := ⟨_, rfl⟩
 have hargs : args = vs.toArray := by rw [<- hvs]
 rw [hvs] at hA
 obtain ⟨v0, vs0, d0, ds0, p0, q0, e0, f0, g0, h0, hA⟩ := trodAll_cons hA
 obtain ⟨v1, vs1, d1, ds1, p1, q1, e1, f1, g1, h1, hA⟩ := trodAll_cons hA
 obtain ⟨ev, ed, ep⟩ := trodAll_nil hA
 subst ev ed ep e1 f1 g1 e0 f0 g0
 subst hargs
 have w0 := hval 0 50 v0 (by simp) (by simp)
 obtain ⟨hd0, rows0, rfl, hsh0, hro0, hle0, a0⟩ := MT (ks := smK) Tryd.underlying50 (by kernel_rfl) (by kernel_rfl) (by decide) w0 h0
 have hln0 : (rows0.length : Int) <= 9223372036854775807 := by unfold maxLen at hle0; omega
 have hlw0 : IntKind.i64.wrap (rows0.length : Int) = (rows0.length : Int) := i64w (by omega) (by omega)
 have w1 := hval 1 85 v1 (by simp) (by simp)
 obtain ⟨xs1, rfl, hz1, rfl, a1⟩ := Qx (ks := smK) Tryd.underlying85 (by kernel_rfl) w1 h1
 obtain ⟨z1_0, k1_0, z1_1, k1_1, z1_2, k1_2, z1_3, k1_3, z1_4, k1_4, z1_5, k1_5, z1_6, k1_6, z1_7, k1_7, z1_8, k1_8, z1_9, k1_9, z1_10, k1_10, z1_11, k1_11, z1_12, k1_12, rfl⟩ := DE hz1
 have hcall : Calls Tryd.prog 10 #[hd0.sl rows0.length, .agg (vals smK [z1_0, z1_1, z1_2, z1_3, z1_4, z1_5, z1_6, z1_7, z1_8, z1_9, z1_10, z1_11, z1_12]).toArray] W fun en W' => en = .returned (.bool true) /\ Below W.heap.size W W' := by
  refine Nd (e := e10) ok10.1 (Lr hL) (xs := [cd rows0, z1_0, z1_1, z1_2, z1_3, z1_4, z1_5, z1_6, z1_7, z1_8, z1_9, z1_10, z1_11, z1_12]) ⟨rfl, k1_0, k1_1, k1_2, k1_3, k1_4, k1_5, k1_6, k1_7, k1_8, k1_9, k1_10, k1_11, k1_12, trivial⟩ (by show Ad smK (dc (cd rows0)) /\ ((dc (cd rows0)).length : Int) <= _; rw [Ac]; exact ⟨hro0, hln0⟩) rfl rfl (hs := fun _ => hd0) ?_ ?_
  ·show (#[hd0.sl (IntKind.i64.wrap ((dc (cd rows0)).length : Int)).toNat, Value.agg (vals smK (List.zipWith K.norm smK [z1_0, z1_1, z1_2, z1_3, z1_4, z1_5, z1_6, z1_7, z1_8, z1_9, z1_10, z1_11, z1_12])).toArray] : Array Value) = _
   have zn : ∀ (ks : List K) (zs : List Int), fits ks zs -> List.zipWith K.norm ks zs = zs := JD
   rw [Ac, hlw0, Int.toNat_natCast, zn _ _ hz1]
  ·exact OA (Em rows0) (by show IntKind.i64.wrap ((dc (cd rows0)).length : Int) = ((dc (cd rows0)).length : Int); rw [Ac]; exact hlw0) (by show ShL _ _ _ _ (dc (cd rows0)); rw [Ac]; exact hsh0) (Qy)
 refine hcall.mono fun en W' ⟨he, hb⟩ => ⟨.bool true, he, MU (pa := p0 ++ ([] ++ ([]))) (pv := []) hW' (fun b sp hdl => trodAll_mk1 (shut_bool Tryd.underlying4 _)) (fun sp hold => ?_) (fun _ _ => rfl) rfl hb ?_⟩
 ·exact ⟨_, _, a0 W' sp hb fun q hq => hold q (by simp only [List.mem_append]; first | exact Or.inl hq | exact Or.inl (Or.inl hq) | exact Or.inl (Or.inr hq) | exact Or.inl (Or.inr (Or.inl hq)) | exact Or.inl (Or.inr (Or.inr (Or.inl hq)))), ⟨_, _, a1 _ _ _ _, rfl, rfl⟩, rfl⟩
 ·intro j t r hj hr
  match j with
  | 0 =>
    obtain rfl : 4 = t := Option.some.inj hj
    obtain rfl : Value.bool true = r := Option.some.inj hr
    exact okWide_bool_mk Tryd.underlying4 _
  | j + 1 => exact absurd hj (by simp [Tryd.f10])
theorem row : Rows.CompileFirstSaid :=
 OpenClaim.holds_of_wide 10 Tryd.f10 rfl rfl rfl rfl rfl rfl rfl ⟨rfl, rfl, rfl, rfl, rfl⟩ rfl rfl rfl rfl rfl (by kernel_rfl) Tryd.func10 (by kernel_rfl)
  (of_decide_eq_true (by kernel_rfl)) (by unfold Func.isWrapper; first | (rw [if_pos (by decide +kernel)]; kernel_rfl) | (rw [if_neg (by decide +kernel)]; exact ⟨rfl, rfl⟩))
  (fun os started H enc _ => SR os started H enc)
theorem proved : Rows.CompileFirstCardSaid :=
 Claim7.holds_tied_plain_at .later [] [.data, .data, .widerDeep] true (true, "147a168b2cef69ca9cbcb93f052d9566e45e0c97b9ce6d0143d5b45d70c3c2bc") false row (fun _ h => by cases h) (by kernel_rfl) (fun _ h => by cases h) Fg rfl ⟨rfl, rfl⟩ (by kernel_rfl) rfl
  (fun f fn hf hfn => by
   obtain rfl : f = 10 := Option.some.inj ((show Tryd.prog.funcNamed "baffle/bafflelaw28.CompileFirst" = some 10 by kernel_rfl).symm.trans hf) |>.symm
   obtain rfl : fn = Tryd.f10 := (Option.some.inj (Tryd.func10.symm.trans hfn)).symm
   exact ⟨by kernel_rfl, fun j t ht => by
    rw [Tryd.params10] at ht
    have hm : t ∈ ([50, 85] : List TypeId) := by simpa using Array.mem_of_getElem? ht
    have hall : (([50, 85] : List TypeId).all fun u => !Tryd.prog.wantsStandIn u) = true := by kernel_rfl
    exact (show Tryd.prog.wantsStandIn t = false by simpa using List.all_eq_true.1 hall t hm)⟩)
  (by kernel_rfl)
end Go.Proofs.YtgpflpbldeflhaaDoor.Ew.Cd10
namespace Go.Proofs.YtgpflpbldeflhaaDoor
theorem compileFirst_proved : Rows.CompileFirstCardSaid := Ew.Cd10.proved
#print axioms compileFirst_proved
end Go.Proofs.YtgpflpbldeflhaaDoor
