/- Layer 28: CompileTells: for every input that the row admits the law's function returns true, and the input reads afterwards as it did; and its card. -/
import Derived.Test.YtgpflpbldeflhaaDoort12
set_option linter.unusedVariables false
set_option linter.unusedSimpArgs false
namespace Go.Proofs.YtgpflpbldeflhaaDoor.Ew.Cd5
open Go Go.RowKit Go.ChangeShapes Go.WideShapes Go.ChangeAt Go.Proofs.YtgpflpbldeflhaaDoor.Ew Go.Proofs.YtgpflpbldeflhaaDoor.Ew.Ar Go.Proofs.YtgpflpbldeflhaaDoor.Ew.Sr
set_option maxHeartbeats 2000000 in
set_option maxRecDepth 100000 in
theorem UF (os : Os) (started : os.Started) (H : Type) (enc : TypeId × Value -> H) :
 ReturnsInHanded {} Tryd.checked os 5 .any (fun w args => (Rows.compileTellsSpec.pre enc Tryd.prog Tryd.f5 Rows.compileTellsRow.domain false w args /\ laidMetH Tryd.prog Fy w) /\ sizedMet enc Tryd.prog Tryd.f5 (OpenSpec.ofChange Rows.compileTellsSpec) false w args)
  (Rows.compileTellsSpec.post enc Tryd.prog Tryd.f5 false true false false) := by
 refine returnsInHanded_of_change_and (C := Tryd.checked) (X := fun w _ => laidMetH Tryd.prog Fy w) (fun _ _ _ hh h => h.of_heap hh) own started (by kernel_rfl) Tryd.func5
  (ChangeSpec.witness_shaped (enc := enc) (C := Tryd.checked) (os := os) (X := fun w _ => laidMetH Tryd.prog Fy w) false (World.laidAll Tryd.prog os Fy) #[.slice none 0 0, .int .u8 0, .agg #[.int .u8 0, .int .u32 0, .int .u32 0, .int .u16 0, .int .u16 0, .int .u8 0, .int .u8 0, .int .u8 0, .int .u8 0, .int .u32 0, .int .u32 0, .int .i64 0, .int .i64 0, .int .u8 0, .int .u32 0, .int .u32 0, .int .u16 0, .int .u16 0, .int .u8 0], .int .i64 0] 12 (World.laidAll_os _ _ _)
   (World.shaped_of_ZipB (by kernel_rfl) (by kernel_rfl)) (by kernel_rfl) (by kernel_rfl) (by kernel_rfl) (RU os _)) ?_
 intro W base args ds gs before hval0 hW hc _ hL _
 have hval : ∀ (j : Nat) t v, Tryd.f5.params[j]? = some t -> args[j]? = some v -> Value.okWide Tryd.prog W .any base t v := hval0
 have hW' := hW
 obtain ⟨p, q, hA0, hV, rfl, _, _⟩ := hW
 have hA : DataW.TrodAll enc Tryd.prog W 0 (fun _ => true) true Tryd.f5.params.toList args.toList ds p := hA0
 rw [Tryd.params5] at hA hval
 obtain ⟨rfl, rfl⟩ := trodVars_none hV
 obtain ⟨vs, hvs⟩ : ∃ vs, args.toList = vs := ⟨_, rfl⟩
 have hargs : args = vs.toArray := by rw [<- hvs]
 rw [hvs] at hA
 obtain ⟨v0, vs0, d0, ds0, p0, q0, e0, f0, g0, h0, hA⟩ := trodAll_cons hA
 obtain ⟨v1, vs1, d1, ds1, p1, q1, e1, f1, g1, h1, hA⟩ := trodAll_cons hA
 obtain ⟨v2, vs2, d2, ds2, p2, q2, e2, f2, g2, h2, hA⟩ := trodAll_cons hA
 obtain ⟨v3, vs3, d3, ds3, p3, q3, e3, f3, g3, h3, hA⟩ := trodAll_cons hA
 obtain ⟨ev, ed, ep⟩ := trodAll_nil hA
 subst ev ed ep e3 f3 g3 e2 f2 g2 e1 f1 g1 e0 f0 g0
 subst hargs
 have w0 := hval 0 51 v0 (by simp) (by simp)
 obtain ⟨hd0, rows0, rfl, hsh0, hro0, hle0, a0⟩ := NT (ks := ruK) Tryd.underlying51 (by kernel_rfl) (by kernel_rfl) (by decide) w0 h0
 have hln0 : (rows0.length : Int) <= 9223372036854775807 := by unfold maxLen at hle0; omega
 have hlw0 : IntKind.i64.wrap (rows0.length : Int) = (rows0.length : Int) := i64w (by omega) (by omega)
 have w1 := hval 1 5 v1 (by simp) (by simp)
 obtain ⟨z1, rfl, hz1, rfl, a1⟩ := Lk Tryd.underlying5 w1 h1
 have w2 := hval 2 31 v2 (by simp) (by simp)
 obtain ⟨xs2, rfl, hz2, rfl, a2⟩ := RI (ks := facK) Tryd.underlying31 (by kernel_rfl) w2 h2
 obtain ⟨z2_0, k2_0, z2_1, k2_1, z2_2, k2_2, z2_3, k2_3, z2_4, k2_4, z2_5, k2_5, z2_6, k2_6, z2_7, k2_7, z2_8, k2_8, z2_9, k2_9, z2_10, k2_10, z2_11, k2_11, z2_12, k2_12, z2_13, k2_13, z2_14, k2_14, z2_15, k2_15, z2_16, k2_16, z2_17, k2_17, z2_18, k2_18, rfl⟩ := AQ hz2
 have w3 := hval 3 3 v3 (by simp) (by simp)
 obtain ⟨z3, rfl, hz3, rfl, a3⟩ := Lk Tryd.underlying3 w3 h3
 have hcall : Calls Tryd.prog 5 #[hd0.sl rows0.length, .int .u8 z1, .agg (vals facK [z2_0, z2_1, z2_2, z2_3, z2_4, z2_5, z2_6, z2_7, z2_8, z2_9, z2_10, z2_11, z2_12, z2_13, z2_14, z2_15, z2_16, z2_17, z2_18]).toArray, .int .i64 z3] W fun en W' => en = .returned (.bool true) /\ Below W.heap.size W W' := by
  refine Oj (e := e5) ok5.1 (Mp hL) (xs := [cd rows0, z1, z2_0, z2_1, z2_2, z2_3, z2_4, z2_5, z2_6, z2_7, z2_8, z2_9, z2_10, z2_11, z2_12, z2_13, z2_14, z2_15, z2_16, z2_17, z2_18, z3]) ⟨rfl, hz1, k2_0, k2_1, k2_2, k2_3, k2_4, k2_5, k2_6, k2_7, k2_8, k2_9, k2_10, k2_11, k2_12, k2_13, k2_14, k2_15, k2_16, k2_17, k2_18, hz3, trivial⟩ (by show rowsOK ruK (dc (cd rows0)) /\ ((dc (cd rows0)).length : Int) <= _; rw [Ab]; exact ⟨hro0, hln0⟩) rfl rfl (hs := fun _ => hd0) ?_ ?_
  ·show (#[hd0.sl (IntKind.i64.wrap ((dc (cd rows0)).length : Int)).toNat, Value.int .u8 (IntKind.u8.wrap z1), Value.agg (vals facK (List.zipWith K.norm facK [z2_0, z2_1, z2_2, z2_3, z2_4, z2_5, z2_6, z2_7, z2_8, z2_9, z2_10, z2_11, z2_12, z2_13, z2_14, z2_15, z2_16, z2_17, z2_18])).toArray, Value.int .i64 (IntKind.i64.wrap z3)] : Array Value) = _
   have zn : ∀ (ks : List K) (zs : List Int), fits ks zs -> List.zipWith K.norm ks zs = zs := Ka
   rw [Ab, hlw0, Int.toNat_natCast, hz1, zn _ _ hz2, hz3]
  ·exact PT (Ev rows0) (by show IntKind.i64.wrap ((dc (cd rows0)).length : Int) = ((dc (cd rows0)).length : Int); rw [Ab]; exact hlw0) (by show ShL _ _ _ _ (dc (cd rows0)); rw [Ab]; exact hsh0) (RJ)
 refine hcall.mono fun en W' ⟨he, hb⟩ => ⟨.bool true, he, NU (pa := p0 ++ ([] ++ ([] ++ ([] ++ ([]))))) (pv := []) hW' (fun b sp hdl => trodAll_mk1 (shut_bool Tryd.underlying4 _)) (fun sp hold => ?_) (fun _ _ => rfl) rfl hb ?_⟩
 ·exact ⟨_, _, a0 W' sp hb fun q hq => hold q (by simp only [List.mem_append]; first | exact Or.inl hq | exact Or.inl (Or.inl hq) | exact Or.inl (Or.inr hq) | exact Or.inl (Or.inr (Or.inl hq)) | exact Or.inl (Or.inr (Or.inr (Or.inl hq)))), ⟨_, _, a1 _ _ _ _, ⟨_, _, a2 _ _ _ _, ⟨_, _, a3 _ _ _ _, rfl, rfl⟩, rfl⟩, rfl⟩, rfl⟩
 ·intro j t r hj hr
  match j with
  | 0 =>
    obtain rfl : 4 = t := Option.some.inj hj
    obtain rfl : Value.bool true = r := Option.some.inj hr
    exact okWide_bool_mk Tryd.underlying4 _
  | j + 1 => exact absurd hj (by simp [Tryd.f5])
theorem row : Rows.CompileTellsSaid :=
 OpenClaim.holds_of_wide 5 Tryd.f5 rfl rfl rfl rfl rfl rfl rfl ⟨rfl, rfl, rfl, rfl, rfl⟩ rfl rfl rfl rfl rfl (by kernel_rfl) Tryd.func5 (by kernel_rfl)
  (of_decide_eq_true (by kernel_rfl)) (by unfold Func.isWrapper; first | (rw [if_pos (by decide +kernel)]; kernel_rfl) | (rw [if_neg (by decide +kernel)]; exact ⟨rfl, rfl⟩))
  (fun os started H enc _ => UF os started H enc)
theorem proved : Rows.CompileTellsCardSaid :=
 Claim7.holds_tied_plain_at .later [] [.data, .widerDeep] true (true, "147a168b2cef69ca9cbcb93f052d9566e45e0c97b9ce6d0143d5b45d70c3c2bc") false row (fun _ h => by cases h) (by kernel_rfl) (fun _ h => by cases h) FE rfl ⟨rfl, rfl⟩ (by kernel_rfl) rfl
  (fun f fn hf hfn => by
   obtain rfl : f = 5 := Option.some.inj ((show Tryd.prog.funcNamed "baffle/bafflelaw28.CompileTells" = some 5 by kernel_rfl).symm.trans hf) |>.symm
   obtain rfl : fn = Tryd.f5 := (Option.some.inj (Tryd.func5.symm.trans hfn)).symm
   exact ⟨by kernel_rfl, fun j t ht => by
    rw [Tryd.params5] at ht
    have hm : t ∈ ([51, 5, 31, 3] : List TypeId) := by simpa using Array.mem_of_getElem? ht
    have hall : (([51, 5, 31, 3] : List TypeId).all fun u => !Tryd.prog.wantsStandIn u) = true := by kernel_rfl
    exact (show Tryd.prog.wantsStandIn t = false by simpa using List.all_eq_true.1 hall t hm)⟩)
  (by kernel_rfl)
end Go.Proofs.YtgpflpbldeflhaaDoor.Ew.Cd5
namespace Go.Proofs.YtgpflpbldeflhaaDoor
theorem compileTells_proved : Rows.CompileTellsCardSaid := Ew.Cd5.proved
#print axioms compileTells_proved
end Go.Proofs.YtgpflpbldeflhaaDoor
