/- slices.Clone at ints, as a summary. -/
import Derived.Test.YtfhheeoejncfgaaRs
import Derived.Test.YtfhheeoejncfgaaWr
import Derived.Test.YtfhheeoejncfgaaChecked
import Derived.WalkKit
import Derived.Deep.LoopGhost
import Derived.Lib.Walk
import Derived.Lib.SliceRun
import Derived.Lib.Hide
set_option linter.unusedVariables false
set_option linter.unusedSimpArgs false
namespace Go.Proofs.Ytfhheeoejncfgaa.Ew
open Go Go.RowKit Go.Lib

theorem addr_add (b o k : Nat) : (⟨b, o, none⟩ : Addr).add k = ⟨b, o + k, none⟩ := Addr.add_none b o k

theorem infoI : ∃ inf z, Try.prog.info? 3 = some inf ∧ inf.zero = some z ∧ inf.size = 1 ∧ inf.bytes = 8 ∧ z = .int .i64 0 := by
  have h : (Try.prog.info? 3).map (fun i => (i.zero, i.size, i.bytes)) = some (some (.int .i64 0), 1, 8) := by kernel_rfl
  obtain ⟨inf, h1, h2⟩ := Option.map_eq_some_iff.1 h
  simp only [Prod.mk.injEq] at h2
  exact ⟨inf, _, h1, h2.1, h2.2.1, h2.2.2, rfl⟩
theorem underI : Try.prog.underlying 26 = some (.slice 3) := by kernel_rfl

set_option maxHeartbeats 4000000 in
set_option maxRecDepth 1000000 in
theorem clone_nil (w : World) : Calls Try.prog 37 #[.slice none 0 0] w fun e w' => e = .returned (.slice none 0 0) ∧ w' = w := by
  have eqn := fun (w : World) a n c => Lib.run_eql_slice_nil (P := Try.prog) w 26 3 a n c 0 0 underI
  go_enter Try.func37, Try.ntmps37
  go_wp2
  all_goals (go_ret; exact ⟨rfl, rfl⟩)

set_option maxHeartbeats 4000000 in
set_option maxRecDepth 1000000 in
theorem clone_some (w : World) (b o n cap : Nat) (xs : List Value) (hl : xs.length = n * 1) (hsrc : ∀ j u, xs[j]? = some u → w.cell? ⟨b, o + j, none⟩ = some u) (h1 : ∀ u ∈ xs, u.oneCell' = true) (hb : n * 8 ≤ 140737488355328) :
    Calls Try.prog 37 #[.slice (some ⟨b, o, none⟩) n cap] w fun e w' => ∃ v', e = .returned v' ∧ w'.ownsRow 0 3 1 v' n xs ∧ Fr (fun _ => False) w w' ∧ ∀ k, v'.ownBlock = some k → w.heap.size ≤ k := by
  obtain ⟨inf, z, z1, z2, z3, z4, rfl⟩ := infoI
  have A : Hid ((∀ j u, xs[j]? = some u → w.cell? ⟨b, o + j, none⟩ = some u) ∧ ∀ u ∈ xs, u.oneCell' = true) := ⟨hsrc, h1⟩
  clear hsrc h1
  have eqn := fun (w : World) a n c => Lib.run_eql_slice_nil (P := Try.prog) w 26 3 a n c 0 0 underI
  go_enter Try.func37, Try.ntmps37
  go_wp2_with (at_builtin; refine wpList_append_own _ rfl _ _ 26 rfl w.heap.size 3 inf (.int .i64 0) 1 8 underI z1 z2 z3 z4 rfl (by decide) _ _ _ rfl (World.ownsRow_made w #[] 0 (Nat.le_refl _) (Nat.zero_le _) rfl) ⟨b, o, none⟩ n cap xs rfl hl ?qc2 ?qc3 ?qc4 ?qc5 ?qc6 ?_)
  case qc2 =>
    intro j u hj
    rw [addr_add]
    have hc := A.out.1 j u hj
    have hbl : b < w.heap.size := World.block_lt_of_cell? w _ hc
    simp only [World.cell?] at hc ⊢
    rw [heap_alloc_old w _ hbl]; exact hc
  case qc3 => exact A.out.2
  case qc4 => unfold maxLen; omega
  case qc5 => omega
  case qc6 => simp
  intro v' w1 hown hgrow hnil
  go_wp2
  go_ret
  refine ⟨v', rfl, ⟨hown.1, ?_⟩, ?_, ?_⟩
  · rcases hown.2 with h | ⟨g, c, cur, h1, h2, h3⟩
    · exact Or.inl h
    · exact Or.inr ⟨g, c, cur, h1, Nat.zero_le _, h3⟩
  · exact (Fr.alloc (fun _ => False) w (.cells #[] 3)).trans (Fr.grown hgrow) (fun b hb e => by simp only [Value.ownBlock, Option.some.injEq] at e; omega)
  · intro k hk
    rcases hown.2 with ⟨rfl, _⟩ | ⟨g, c, cur, rfl, h2, _⟩
    · simp [Value.ownBlock] at hk
    · simp only [Value.ownBlock, Option.some.injEq] at hk; omega

noncomputable def cloneE (key : Nat) : Ent := ⟨key, 37, [.lst 3 sRow false], [], [], .lst 3 sRow true, fun _ xs => env xs 0, fun xs => ((dc (env xs 0)).length : Int) < 1099511627776⟩

theorem RowsV_allI {w w' : World} {Im Im' : Nat → Prop} {l : RL} {xs : List Value} (h : RowsV w Im sRow l xs) : RowsV w' Im' sRow l xs :=
  RowsV.fr (Im := fun _ => False) (fun _ h => h.elim) (RowsV_any (ks := sK) (Im' := fun _ => False) h)

theorem rd_rows {w : World} {Im : Nat → Prop} {q : Row} : ∀ (l : RL) (b o : Nat), (∀ i r', l[i]? = some r' → ∃ us, RowV w Im q r' us ∧ ∀ j u, us[j]? = some u → w.cell? ⟨b, o + i * q.size + j, none⟩ = some u) →
    ∃ xs, RowsV w Im q l xs ∧ ∀ j u, xs[j]? = some u → w.cell? ⟨b, o + j, none⟩ = some u
  | [], b, o, _ => ⟨[], rfl, fun j u h => by simp at h⟩
  | r :: l, b, o, h => by
    obtain ⟨us, u1, u2⟩ := h 0 r rfl
    obtain ⟨ys, y1, y2⟩ := rd_rows l b (o + q.size) fun i r' hi => by
      obtain ⟨vs, v1, v2⟩ := h (i + 1) r' (by simpa using hi)
      refine ⟨vs, v1, fun j u hu => ?_⟩
      have := v2 j u hu
      rwa [Nat.succ_mul, show o + (i * q.size + q.size) + j = o + q.size + i * q.size + j by omega] at this
    refine ⟨us ++ ys, ⟨us, ys, rfl, u1, y1⟩, fun j u hu => ?_⟩
    have hl := u1.len.1
    by_cases hj : j < us.length
    · rw [List.getElem?_append_left hj] at hu
      have := u2 j u hu
      rwa [Nat.zero_mul, Nat.add_zero] at this
    · rw [List.getElem?_append_right (by omega)] at hu
      have := y2 (j - us.length) u hu
      rwa [show o + q.size + (j - us.length) = o + j by omega] at this

theorem relE_ret {w w' : World} {M0 Im0 : Nat → Prop} {hs : Nat → Hd} {ty : Nat} {q : Row} (hM : ∀ b, M0 b → ¬ Im0 b ∧ b < w.heap.size) (hI : ∀ b, Im0 b → b < w.heap.size) (hf : Fr M0 w w') {nn k : Nat} {ys : List Int} {hd' : Hd}
    (hc : isCd (env ys k)) (ho : OwL w' Im0 ty q hd' (dc (env ys k))) (hb : ∀ b, (hd'.sl (dc (env ys k)).length).ownBlock = some b → M0 b ∨ w.heap.size ≤ b) :
    RelE F0 (env ys) w M0 Im0 (upd hs nn hd') [(nn, mkB true, .lst ty q true (LEN (.var .x k)) (.var .x k))] w' := by
  have hl : (LEN (.var .x k)).den F0 (env ys) = ((dc (env ys k)).length : Int) := by
    rw [BI_F0.len]
    exact wrap_len ho.1
  have hd : (E.var .x k).den F0 (env ys) = env ys k := rfl
  refine ⟨fun x hx _ => ?_, fun x hx y hy _ _ b _ _ => ?_, fun b hb' => Nat.lt_of_lt_of_le (hI b hb') hf.size, hf⟩
  · simp only [List.mem_singleton] at hx
    subst hx
    have hm : mutB F0 (env ys) (upd hs nn hd') nn (.lst ty q true (LEN (.var .x k)) (.var .x k)) = (hd'.sl (dc (env ys k)).length).ownBlock := by
      simp only [mutB, upd_same, hl, Int.toNat_natCast]
    refine ⟨⟨by rw [hd]; exact hc, by rw [hd]; exact hl, ?_⟩, fun b hb' => ?_⟩
    · rw [hd]; simp only [cond_true, upd_same]; exact ho
    · rw [hm] at hb'
      refine ⟨hb b hb', fun hi => ?_, (ho.2.choose_spec.1.lt b hb').2⟩
      rcases hb b hb' with h | h
      · exact (hM b h).1 hi
      · have := hI b hi; omega
  · simp only [List.mem_singleton] at hx hy
    subst hx; subst hy; rfl

theorem clone_own (w : World) (Im : Nat → Prop) (h : Hd) (l : RL) (hsh : ShL w Im sRow h l) (hb : l.length * 8 ≤ 140737488355328) :
    Calls Try.prog 37 #[h.sl l.length] w fun e w' => ∃ v' xs, e = .returned v' ∧ w'.ownsRow 0 3 1 v' l.length xs ∧ RowsV w' Im sRow l xs ∧ Fr (fun _ => False) w w' ∧ ∀ k, v'.ownBlock = some k → w.heap.size ≤ k := by
  rcases sl_form h l.length with ⟨h1, h2⟩ | h1
  · rw [h1]
    have : l = [] := List.length_eq_zero_iff.1 h2
    subst this
    refine Calls.mono (clone_nil w) fun e w' hh => ?_
    obtain ⟨e1, rfl⟩ := hh
    exact ⟨_, [], e1, World.ownsRow_nil _ _ _ _, rfl, Fr.refl _ _, fun k hk => by simp [Value.ownBlock] at hk⟩
  · rw [h1]
    obtain ⟨xs, x1, x2⟩ := rd_rows l h.blk h.off hsh.2.2.2
    have hl := x1.len
    refine Calls.mono (clone_some w h.blk h.off l.length h.cap xs hl x2 x1.one hb) fun e w' hh => ?_
    obtain ⟨v', e1, e2, e3, e4⟩ := hh
    exact ⟨v', xs, e1, e2, RowsV_allI x1, e3, e4⟩

theorem clone_ok (G : Glob) (key : Nat) : EntryOK Try.prog G (cloneE key) := by
  intro xs hf hp w M0 Im0 hs hM hG hR
  obtain ⟨a, rfl⟩ := List.length_eq_one_iff.1 (show xs.length = 1 from fits_length hf)
  · have e0 : env [a] 0 = a := rfl
    have hp : ((dc a).length : Int) < 1099511627776 := hp
    obtain ⟨h1, _⟩ := hR.ent (0, mkB true, .lst 3 sRow false (LEN (.var .x 0)) (.var .x 0)) (List.mem_cons_self ..) (by simp)
    obtain ⟨a1, a2, a3⟩ := h1
    have hd : (E.var .x 0).den F0 (env [a]) = a := rfl
    rw [hd] at a1 a2 a3
    simp only [cond_false] at a3
    have H := clone_own w Im0 (hs 0) (dc a) a3 (by omega)
    have hargs : (SV.concL F0 (env [a]) hs (cloneE key).pgen.1).toArray = #[(hs 0).sl (dc a).length] := by
      show #[SV.conc F0 (env [a]) hs (.ls 0 (LEN (.var .x 0)))] = _
      simp only [SV.conc, a2, Int.toNat_natCast]
    rw [hargs]
    refine Calls.mono H fun e w' h => ?_
    obtain ⟨v', xs', r1, r2, r3, r4, r5⟩ := h
    obtain ⟨hd', rfl⟩ := ownsRow_hd r2
    have hz3 : env ([a] ++ outsE (cloneE key).fn [a] 0 (cloneE key).oks) 1 = a := rfl
    refine ⟨upd hs 1 hd', Im0, fun j hj => upd_other hs hd' (by have : j < 1 := hj; omega), fun _ h => h, fun b h => Or.inl h, ?_, ?_⟩
    · rw [r1]
      show _ = Ending.returned (SV.conc F0 _ (upd hs 1 hd') (.ls 1 (LEN (.var .x 1))))
      have : (LEN (.var .x 1)).den F0 (env ([a] ++ outsE (cloneE key).fn [a] 0 (cloneE key).oks)) = ((dc a).length : Nat) := by
        rw [BI_F0.len]
        exact wrap_len a3.1
      simp only [SV.conc, upd_same, this, Int.toNat_natCast]
    · have := relE_ret (hs := hs) (nn := 1) (k := 1) (ys := [a] ++ outsE (cloneE key).fn [a] 0 (cloneE key).oks) hM hR.im (r4.mono fun _ h => h.elim) (hd' := hd') (by rw [hz3]; exact a1)
        (by rw [hz3]; exact ⟨a3.1, xs', r2, RowsV_allI r3⟩) (by
          rw [hz3]
          intro b hb
          exact Or.inr (r5 b hb))
      exact this

end Go.Proofs.Ytfhheeoejncfgaa.Ew
