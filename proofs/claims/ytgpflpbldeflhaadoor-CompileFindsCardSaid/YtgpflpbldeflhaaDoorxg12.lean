/- Layer 28: CompileFinds: for every input that the row admits the law's function returns true, and the input reads afterwards as it did; and its card. -/
import Derived.Test.YtgpflpbldeflhaaDoorxg11
set_option linter.unusedVariables false
set_option linter.unusedSimpArgs false
namespace Go.Proofs.YtgpflpbldeflhaaDoor.Ew.Cd3
open Go Go.RowKit Go.ChangeShapes Go.WideShapes Go.ChangeAt Go.Proofs.YtgpflpbldeflhaaDoor.Ew Go.Proofs.YtgpflpbldeflhaaDoor.Ew.Ar Go.Proofs.YtgpflpbldeflhaaDoor.Ew.Sr
set_option maxHeartbeats 2000000 in
set_option maxRecDepth 100000 in
theorem S2 (os : Os) (started : os.Started) (H : Type) (enc : TypeId × Value -> H) :
 ReturnsInHanded {} Tryd.checked os 3 .any (fun w args => (Rows.compileFindsSpec.pre enc Tryd.prog Tryd.f3 Rows.compileFindsRow.domain false w args /\ laidMetH Tryd.prog Fp w) /\ sizedMet enc Tryd.prog Tryd.f3 (OpenSpec.ofChange Rows.compileFindsSpec) false w args)
  (Rows.compileFindsSpec.post enc Tryd.prog Tryd.f3 false true false false) := by
 refine returnsInHanded_of_change_and (C := Tryd.checked) (X := fun w _ => laidMetH Tryd.prog Fp w) (fun _ _ _ hh h => h.of_heap hh) own started (by kernel_rfl) Tryd.func3
  (ChangeSpec.witness_shaped (enc := enc) (C := Tryd.checked) (os := os) (X := fun w _ => laidMetH Tryd.prog Fp w) false (World.laidAll Tryd.prog os Fp) #[.agg #[.int .i64 0, .slice none 0 0, .slice none 0 0, .slice none 0 0, .slice none 0 0, .slice none 0 0, .slice none 0 0, .slice none 0 0], .int .u8 0, .agg #[.int .u8 0, .int .u32 0, .int .u32 0, .int .u16 0, .int .u16 0, .int .u8 0, .int .u8 0, .int .u8 0, .int .u8 0, .int .u32 0, .int .u32 0, .int .i64 0, .int .i64 0, .int .u8 0, .int .u32 0, .int .u32 0, .int .u16 0, .int .u16 0, .int .u8 0]] 12 (World.laidAll_os _ _ _)
   (World.shaped_of_ZipB (by kernel_rfl) (by kernel_rfl)) (by kernel_rfl) (by kernel_rfl) (by kernel_rfl) (QT os _)) ?_
 intro W base args ds gs before hval0 hW hc _ hL _
 have hval : ∀ (j : Nat) t v, Tryd.f3.params[j]? = some t -> args[j]? = some v -> Value.okWide Tryd.prog W .any base t v := hval0
 have hW' := hW
 obtain ⟨p, q, hA0, hV, rfl, _, _⟩ := hW
 have hA : DataW.TrodAll enc Tryd.prog W 0 (fun _ => true) true Tryd.f3.params.toList args.toList ds p := hA0
 rw [Tryd.params3] at hA hval
 obtain ⟨rfl, rfl⟩ := trodVars_none hV
 obtain ⟨vs, hvs⟩ : ∃ vs, args.toList = vs := ⟨_, rfl⟩
 have hargs : args = vs.toArray := by rw [<- hvs]
 rw [hvs] at hA
 obtain ⟨v0, vs0, d0, ds0, p0, q0, e0, f0, g0, h0, hA⟩ := trodAll_cons hA
 obtain ⟨v1, vs1, d1, ds1, p1, q1, e1, f1, g1, h1, hA⟩ := trodAll_cons hA
 obtain ⟨v2, vs2, d2, ds2, p2, q2, e2, f2, g2, h2, hA⟩ := trodAll_cons hA
 obtain ⟨ev, ed, ep⟩ := trodAll_nil hA
 subst ev ed ep e2 f2 g2 e1 f1 g1 e0 f0 g0
 subst hargs
 have w0 := hval 0 25 v0 (by simp) (by simp)
 obtain ⟨n0, hd00, hd01, hd02, hd03, hd04, hd05, hd06, rows00, rows01, rows02, rows03, rows04, rows05, rows06, rfl, hz0, s00, s01, s02, s03, s04, s05, s06, a0⟩ := QS w0 h0
 have hln00 : (rows00.length : Int) <= 9223372036854775807 := by have hle := s00.2.2; unfold maxLen at hle; omega
 have hlw00 : IntKind.i64.wrap (rows00.length : Int) = (rows00.length : Int) := i64w (by omega) (by omega)
 have hln01 : (rows01.length : Int) <= 9223372036854775807 := by have hle := s01.2.2; unfold maxLen at hle; omega
 have hlw01 : IntKind.i64.wrap (rows01.length : Int) = (rows01.length : Int) := i64w (by omega) (by omega)
 have hln02 : (rows02.length : Int) <= 9223372036854775807 := by have hle := s02.2.2; unfold maxLen at hle; omega
 have hlw02 : IntKind.i64.wrap (rows02.length : Int) = (rows02.length : Int) := i64w (by omega) (by omega)
 have hln03 : (rows03.length : Int) <= 9223372036854775807 := by have hle := s03.2.2; unfold maxLen at hle; omega
 have hlw03 : IntKind.i64.wrap (rows03.length : Int) = (rows03.length : Int) := i64w (by omega) (by omega)
 have hln04 : (rows04.length : Int) <= 9223372036854775807 := by have hle := s04.2.2; unfold maxLen at hle; omega
 have hlw04 : IntKind.i64.wrap (rows04.length : Int) = (rows04.length : Int) := i64w (by omega) (by omega)
 have hln05 : (rows05.length : Int) <= 9223372036854775807 := by have hle := s05.2.2; unfold maxLen at hle; omega
 have hlw05 : IntKind.i64.wrap (rows05.length : Int) = (rows05.length : Int) := i64w (by omega) (by omega)
 have hln06 : (rows06.length : Int) <= 9223372036854775807 := by have hle := s06.2.2; unfold maxLen at hle; omega
 have hlw06 : IntKind.i64.wrap (rows06.length : Int) = (rows06.length : Int) := i64w (by omega) (by omega)
 have w1 := hval 1 5 v1 (by simp) (by simp)
 obtain ⟨z1, rfl, hz1, rfl, a1⟩ := QJ Tryd.underlying5 w1 h1
 have w2 := hval 2 31 v2 (by simp) (by simp)
 obtain ⟨xs2, rfl, hz2, rfl, a2⟩ := QK (ks := facK) Tryd.underlying31 (by kernel_rfl) w2 h2
 obtain ⟨z2_0, k2_0, z2_1, k2_1, z2_2, k2_2, z2_3, k2_3, z2_4, k2_4, z2_5, k2_5, z2_6, k2_6, z2_7, k2_7, z2_8, k2_8, z2_9, k2_9, z2_10, k2_10, z2_11, k2_11, z2_12, k2_12, z2_13, k2_13, z2_14, k2_14, z2_15, k2_15, z2_16, k2_16, z2_17, k2_17, z2_18, k2_18, rfl⟩ := A4 hz2
 have hcall : Calls Tryd.prog 3 #[.agg #[.int .i64 n0, hd00.sl rows00.length, hd01.sl rows01.length, hd02.sl rows02.length, hd03.sl rows03.length, hd04.sl rows04.length, hd05.sl rows05.length, hd06.sl rows06.length], .int .u8 z1, .agg (vals facK [z2_0, z2_1, z2_2, z2_3, z2_4, z2_5, z2_6, z2_7, z2_8, z2_9, z2_10, z2_11, z2_12, z2_13, z2_14, z2_15, z2_16, z2_17, z2_18]).toArray] W fun en W' => en = .returned (.bool true) /\ Below W.heap.size W W' := by
  refine NG (e := e3) ok3.1 (LM hL) (xs := [n0, cd rows00, cd rows01, cd rows02, cd rows03, cd rows04, cd rows05, cd rows06, z1, z2_0, z2_1, z2_2, z2_3, z2_4, z2_5, z2_6, z2_7, z2_8, z2_9, z2_10, z2_11, z2_12, z2_13, z2_14, z2_15, z2_16, z2_17, z2_18]) ⟨hz0, rfl, rfl, rfl, rfl, rfl, rfl, rfl, hz1, k2_0, k2_1, k2_2, k2_3, k2_4, k2_5, k2_6, k2_7, k2_8, k2_9, k2_10, k2_11, k2_12, k2_13, k2_14, k2_15, k2_16, k2_17, k2_18, trivial⟩ (fun k hk => match k, hk with | 0, _ => by show rowsOK clK (dc (cd rows00)) /\ ((dc (cd rows00)).length : Int) <= _; rw [Ab]; exact ⟨s00.2.1, hln00⟩ | 1, _ => by show rowsOK clK (dc (cd rows01)) /\ ((dc (cd rows01)).length : Int) <= _; rw [Ab]; exact ⟨s01.2.1, hln01⟩ | 2, _ => by show rowsOK clK (dc (cd rows02)) /\ ((dc (cd rows02)).length : Int) <= _; rw [Ab]; exact ⟨s02.2.1, hln02⟩ | 3, _ => by show rowsOK clK (dc (cd rows03)) /\ ((dc (cd rows03)).length : Int) <= _; rw [Ab]; exact ⟨s03.2.1, hln03⟩ | 4, _ => by show rowsOK clK (dc (cd rows04)) /\ ((dc (cd rows04)).length : Int) <= _; rw [Ab]; exact ⟨s04.2.1, hln04⟩ | 5, _ => by show rowsOK clK (dc (cd rows05)) /\ ((dc (cd rows05)).length : Int) <= _; rw [Ab]; exact ⟨s05.2.1, hln05⟩ | 6, _ => by show rowsOK clK (dc (cd rows06)) /\ ((dc (cd rows06)).length : Int) <= _; rw [Ab]; exact ⟨s06.2.1, hln06⟩) rfl rfl (hs := fun j => match j with | 0 => hd00 | 1 => hd01 | 2 => hd02 | 3 => hd03 | 4 => hd04 | 5 => hd05 | _ => hd06) ?_ ?_
  ·show (#[.agg #[.int .i64 (IntKind.i64.wrap n0), hd00.sl (IntKind.i64.wrap ((dc (cd rows00)).length : Int)).toNat, hd01.sl (IntKind.i64.wrap ((dc (cd rows01)).length : Int)).toNat, hd02.sl (IntKind.i64.wrap ((dc (cd rows02)).length : Int)).toNat, hd03.sl (IntKind.i64.wrap ((dc (cd rows03)).length : Int)).toNat, hd04.sl (IntKind.i64.wrap ((dc (cd rows04)).length : Int)).toNat, hd05.sl (IntKind.i64.wrap ((dc (cd rows05)).length : Int)).toNat, hd06.sl (IntKind.i64.wrap ((dc (cd rows06)).length : Int)).toNat], Value.int .u8 (IntKind.u8.wrap z1), Value.agg (vals facK (List.zipWith K.norm facK [z2_0, z2_1, z2_2, z2_3, z2_4, z2_5, z2_6, z2_7, z2_8, z2_9, z2_10, z2_11, z2_12, z2_13, z2_14, z2_15, z2_16, z2_17, z2_18])).toArray] : Array Value) = _
   have zn : ∀ (ks : List K) (zs : List Int), fits ks zs -> List.zipWith K.norm ks zs = zs := JN
   simp only [Ab, hlw00, hlw01, hlw02, hlw03, hlw04, hlw05, hlw06, Int.toNat_natCast, hz0]
   rw [hz1, zn _ _ hz2]
  ·exact B5 (Bz rows00) (by show IntKind.i64.wrap ((dc (cd rows00)).length : Int) = ((dc (cd rows00)).length : Int); rw [Ab]; exact hlw00) (by show ShL _ _ _ _ (dc (cd rows00)); rw [Ab]; exact s00.1) (B5 (Bz rows01) (by show IntKind.i64.wrap ((dc (cd rows01)).length : Int) = ((dc (cd rows01)).length : Int); rw [Ab]; exact hlw01) (by show ShL _ _ _ _ (dc (cd rows01)); rw [Ab]; exact s01.1) (B5 (Bz rows02) (by show IntKind.i64.wrap ((dc (cd rows02)).length : Int) = ((dc (cd rows02)).length : Int); rw [Ab]; exact hlw02) (by show ShL _ _ _ _ (dc (cd rows02)); rw [Ab]; exact s02.1) (B5 (Bz rows03) (by show IntKind.i64.wrap ((dc (cd rows03)).length : Int) = ((dc (cd rows03)).length : Int); rw [Ab]; exact hlw03) (by show ShL _ _ _ _ (dc (cd rows03)); rw [Ab]; exact s03.1) (B5 (Bz rows04) (by show IntKind.i64.wrap ((dc (cd rows04)).length : Int) = ((dc (cd rows04)).length : Int); rw [Ab]; exact hlw04) (by show ShL _ _ _ _ (dc (cd rows04)); rw [Ab]; exact s04.1) (B5 (Bz rows05) (by show IntKind.i64.wrap ((dc (cd rows05)).length : Int) = ((dc (cd rows05)).length : Int); rw [Ab]; exact hlw05) (by show ShL _ _ _ _ (dc (cd rows05)); rw [Ab]; exact s05.1) (B5 (Bz rows06) (by show IntKind.i64.wrap ((dc (cd rows06)).length : Int) = ((dc (cd rows06)).length : Int); rw [Ab]; exact hlw06) (by show ShL _ _ _ _ (dc (cd rows06)); rw [Ab]; exact s06.1) (QL)))))))
 refine hcall.mono fun en W' ⟨he, hb⟩ => ⟨.bool true, he, Nr (pa := p0 ++ ([] ++ ([] ++ ([])))) (pv := []) hW' (fun b sp hdl => trodAll_mk1 (shut_bool Tryd.underlying4 _)) (fun sp hold => ?_) (fun _ _ => rfl) rfl hb ?_⟩
 ·exact ⟨_, _, a0 W' sp hb fun q hq => hold q (by simp only [List.mem_append]; first | exact Or.inl hq | exact Or.inl (Or.inl hq) | exact Or.inl (Or.inr hq) | exact Or.inl (Or.inr (Or.inl hq)) | exact Or.inl (Or.inr (Or.inr (Or.inl hq)))), ⟨_, _, a1 _ _ _ _, ⟨_, _, a2 _ _ _ _, rfl, rfl⟩, rfl⟩, rfl⟩
 ·intro j t r hj hr
  match j with
  | 0 =>
    obtain rfl : 4 = t := Option.some.inj hj
    obtain rfl : Value.bool true = r := Option.some.inj hr
    exact okWide_bool_mk Tryd.underlying4 _
  | j + 1 => exact absurd hj (by simp [Tryd.f3])
theorem row : Rows.CompileFindsSaid :=
 OpenClaim.holds_of_wide 3 Tryd.f3 rfl rfl rfl rfl rfl rfl rfl ⟨rfl, rfl, rfl, rfl, rfl⟩ rfl rfl rfl rfl rfl (by kernel_rfl) Tryd.func3 (by kernel_rfl)
  (of_decide_eq_true (by kernel_rfl)) (by unfold Func.isWrapper; first | (rw [if_pos (by decide +kernel)]; kernel_rfl) | (rw [if_neg (by decide +kernel)]; exact ⟨rfl, rfl⟩))
  (fun os started H enc _ => S2 os started H enc)
theorem proved : Rows.CompileFindsCardSaid :=
 Claim7.holds_tied_plain_at .later [] [.data, .widerDeep] true (true, "147a168b2cef69ca9cbcb93f052d9566e45e0c97b9ce6d0143d5b45d70c3c2bc") false row (fun _ h => by cases h) (by kernel_rfl) (fun _ h => by cases h) Fq rfl ⟨rfl, rfl⟩ (by kernel_rfl) rfl
  (fun f fn hf hfn => by
   obtain rfl : f = 3 := Option.some.inj ((show Tryd.prog.funcNamed "baffle/bafflelaw28.CompileFinds" = some 3 by kernel_rfl).symm.trans hf) |>.symm
   obtain rfl : fn = Tryd.f3 := (Option.some.inj (Tryd.func3.symm.trans hfn)).symm
   exact ⟨by kernel_rfl, fun j t ht => by
    rw [Tryd.params3] at ht
    have hm : t ∈ ([25, 5, 31] : List TypeId) := by simpa using Array.mem_of_getElem? ht
    have hall : (([25, 5, 31] : List TypeId).all fun u => !Tryd.prog.wantsStandIn u) = true := by kernel_rfl
    exact (show Tryd.prog.wantsStandIn t = false by simpa using List.all_eq_true.1 hall t hm)⟩)
  (by kernel_rfl)
end Go.Proofs.YtgpflpbldeflhaaDoor.Ew.Cd3
namespace Go.Proofs.YtgpflpbldeflhaaDoor
theorem compileFinds_proved : Rows.CompileFindsCardSaid := Ew.Cd3.proved
#print axioms compileFinds_proved
end Go.Proofs.YtgpflpbldeflhaaDoor
