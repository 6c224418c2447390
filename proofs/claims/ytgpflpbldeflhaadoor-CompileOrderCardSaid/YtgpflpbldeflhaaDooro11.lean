/- Layer 28: CompileOrder: for every input that the row admits the law's function returns true, and the input reads afterwards as it did; and its card. -/
import Derived.Test.YtgpflpbldeflhaaDooro10
set_option linter.unusedVariables false
set_option linter.unusedSimpArgs false
namespace Go.Proofs.YtgpflpbldeflhaaDoor.Ew.Cd4
open Go Go.RowKit Go.ChangeShapes Go.WideShapes Go.ChangeAt Go.Proofs.YtgpflpbldeflhaaDoor.Ew Go.Proofs.YtgpflpbldeflhaaDoor.Ew.Ar Go.Proofs.YtgpflpbldeflhaaDoor.Ew.Sr
set_option maxHeartbeats 2000000 in
set_option maxRecDepth 100000 in
theorem SI (os : Os) (started : os.Started) (H : Type) (enc : TypeId × Value -> H) :
 ReturnsInHanded {} Tryd.checked os 4 .any (fun w args => (Rows.compileOrderSpec.pre enc Tryd.prog Tryd.f4 Rows.compileOrderRow.domain false w args /\ laidMetH Tryd.prog Fm w) /\ sizedMet enc Tryd.prog Tryd.f4 (OpenSpec.ofChange Rows.compileOrderSpec) false w args)
  (Rows.compileOrderSpec.post enc Tryd.prog Tryd.f4 false true false false) := by
 refine returnsInHanded_of_change_and (C := Tryd.checked) (X := fun w _ => laidMetH Tryd.prog Fm w) (fun _ _ _ hh h => h.of_heap hh) own started (by kernel_rfl) Tryd.func4
  (ChangeSpec.witness_shaped (enc := enc) (C := Tryd.checked) (os := os) (X := fun w _ => laidMetH Tryd.prog Fm w) false (World.laidAll Tryd.prog os Fm) #[.slice none 0 0, .int .u8 0] 12 (World.laidAll_os _ _ _)
   (World.shaped_of_ZipB (by kernel_rfl) (by kernel_rfl)) (by kernel_rfl) (by kernel_rfl) (by kernel_rfl) (QD os _)) ?_
 intro W base args ds gs before hval0 hW hc _ hL _
 have hval : ∀ (j : Nat) t v, Tryd.f4.params[j]? = some t -> args[j]? = some v -> Value.okWide Tryd.prog W .any base t v := hval0
 have hW' := hW
 obtain ⟨p, q, hA0, hV, rfl, _, _⟩ := hW
 have hA : DataW.TrodAll enc Tryd.prog W 0 (fun _ => true) true Tryd.f4.params.toList args.toList ds p := hA0
 rw [Tryd.params4] at hA hval
 obtain ⟨rfl, rfl⟩ := trodVars_none hV
 obtain ⟨vs, hvs⟩ : ∃ vs, args.toList = vs := ⟨_, rfl⟩
 have hargs : args = vs.toArray := by rw [<- hvs]
 rw [hvs] at hA
 obtain ⟨v0, vs0, d0, ds0, p0, q0, e0, f0, g0, h0, hA⟩ := trodAll_cons hA
 obtain ⟨v1, vs1, d1, ds1, p1, q1, e1, f1, g1, h1, hA⟩ := trodAll_cons hA
 obtain ⟨ev, ed, ep⟩ := trodAll_nil hA
 subst ev ed ep e1 f1 g1 e0 f0 g0
 subst hargs
 have w0 := hval 0 50 v0 (by simp) (by simp)
 obtain ⟨hd0, rows0, rfl, hsh0, hro0, hle0, a0⟩ := M3 (ks := smK) Tryd.underlying50 (by kernel_rfl) (by kernel_rfl) (by decide) w0 h0
 have hln0 : (rows0.length : Int) <= 9223372036854775807 := by unfold maxLen at hle0; omega
 have hlw0 : IntKind.i64.wrap (rows0.length : Int) = (rows0.length : Int) := i64w (by omega) (by omega)
 have w1 := hval 1 5 v1 (by simp) (by simp)
 obtain ⟨z1, rfl, hz1, rfl, a1⟩ := Qt Tryd.underlying5 w1 h1
 have hcall : Calls Tryd.prog 4 #[hd0.sl rows0.length, .int .u8 z1] W fun en W' => en = .returned (.bool true) /\ Below W.heap.size W W' := by
  refine Nl (e := e4) ok4.1 (Lz hL) (xs := [cd rows0, z1]) ⟨rfl, hz1, trivial⟩ (by show Ac smK (dc (cd rows0)) /\ ((dc (cd rows0)).length : Int) <= _; rw [Ad]; exact ⟨hro0, hln0⟩) rfl rfl (hs := fun _ => hd0) ?_ ?_
  ·show (#[hd0.sl (IntKind.i64.wrap ((dc (cd rows0)).length : Int)).toNat, Value.int .u8 (IntKind.u8.wrap z1)] : Array Value) = _
   have zn : ∀ (ks : List K) (zs : List Int), fits ks zs -> List.zipWith K.norm ks zs = zs := JN
   rw [Ad, hlw0, Int.toNat_natCast, hz1]
  ·exact OY (En rows0) (by show IntKind.i64.wrap ((dc (cd rows0)).length : Int) = ((dc (cd rows0)).length : Int); rw [Ad]; exact hlw0) (by show ShL _ _ _ _ (dc (cd rows0)); rw [Ad]; exact hsh0) (Qu)
 refine hcall.mono fun en W' ⟨he, hb⟩ => ⟨.bool true, he, M4 (pa := p0 ++ ([] ++ ([]))) (pv := []) hW' (fun b sp hdl => trodAll_mk1 (shut_bool Tryd.underlying4 _)) (fun sp hold => ?_) (fun _ _ => rfl) rfl hb ?_⟩
 ·exact ⟨_, _, a0 W' sp hb fun q hq => hold q (by simp only [List.mem_append]; first | exact Or.inl hq | exact Or.inl (Or.inl hq) | exact Or.inl (Or.inr hq) | exact Or.inl (Or.inr (Or.inl hq)) | exact Or.inl (Or.inr (Or.inr (Or.inl hq)))), ⟨_, _, a1 _ _ _ _, rfl, rfl⟩, rfl⟩
 ·intro j t r hj hr
  match j with
  | 0 =>
    obtain rfl : 4 = t := Option.some.inj hj
    obtain rfl : Value.bool true = r := Option.some.inj hr
    exact okWide_bool_mk Tryd.underlying4 _
  | j + 1 => exact absurd hj (by simp [Tryd.f4])
theorem row : Rows.CompileOrderSaid :=
 OpenClaim.holds_of_wide 4 Tryd.f4 rfl rfl rfl rfl rfl rfl rfl ⟨rfl, rfl, rfl, rfl, rfl⟩ rfl rfl rfl rfl rfl (by kernel_rfl) Tryd.func4 (by kernel_rfl)
  (of_decide_eq_true (by kernel_rfl)) (by unfold Func.isWrapper; first | (rw [if_pos (by decide +kernel)]; kernel_rfl) | (rw [if_neg (by decide +kernel)]; exact ⟨rfl, rfl⟩))
  (fun os started H enc _ => SI os started H enc)
theorem proved : Rows.CompileOrderCardSaid :=
 Claim7.holds_tied_plain_at .later [] [.data, .data, .widerDeep] true (true, "147a168b2cef69ca9cbcb93f052d9566e45e0c97b9ce6d0143d5b45d70c3c2bc") false row (fun _ h => by cases h) (by kernel_rfl) (fun _ h => by cases h) Fp rfl ⟨rfl, rfl⟩ (by kernel_rfl) rfl
  (fun f fn hf hfn => by
   obtain rfl : f = 4 := Option.some.inj ((show Tryd.prog.funcNamed "baffle/bafflelaw28.CompileOrder" = some 4 by kernel_rfl).symm.trans hf) |>.symm
   obtain rfl : fn = Tryd.f4 := (Option.some.inj (Tryd.func4.symm.trans hfn)).symm
   exact ⟨by kernel_rfl, fun j t ht => by
    rw [Tryd.params4] at ht
    have hm : t ∈ ([50, 5] : List TypeId) := by simpa using Array.mem_of_getElem? ht
    have hall : (([50, 5] : List TypeId).all fun u => !Tryd.prog.wantsStandIn u) = true := by kernel_rfl
    exact (show Tryd.prog.wantsStandIn t = false by simpa using List.all_eq_true.1 hall t hm)⟩)
  (by kernel_rfl)
end Go.Proofs.YtgpflpbldeflhaaDoor.Ew.Cd4
namespace Go.Proofs.YtgpflpbldeflhaaDoor
theorem compileOrder_proved : Rows.CompileOrderCardSaid := Ew.Cd4.proved
#print axioms compileOrder_proved
end Go.Proofs.YtgpflpbldeflhaaDoor
