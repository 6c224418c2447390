/- slices.Delete, slices.Clone at the queue's timers, as summaries. -/
import Derived.Test.YtmolkkphnehgcaaQc
set_option linter.unusedVariables false
set_option linter.unusedSimpArgs false
namespace Go.Proofs.Ytmolkkphnehgcaa.Ew
open Go Go.RowKit Go.Lib

set_option maxHeartbeats 4000000 in
set_option maxRecDepth 1000000 in
theorem delete_nil (w : World) : Calls Try.prog 34 #[.slice none 0 0, .int .i64 0, .int .i64 0] w fun e w' => e = .returned (.slice none 0 0) ∧ w' = w := by
  go_enter Try.func34, Try.ntmps34
  go_wp2
  all_goals (go_ret; exact ⟨rfl, rfl⟩)

set_option maxHeartbeats 4000000 in
set_option maxRecDepth 1000000 in
theorem clone_nil (w : World) : Calls Try.prog 29 #[.slice none 0 0] w fun e w' => e = .returned (.slice none 0 0) ∧ w' = w := by
  have eqn := fun (w : World) a n c => Lib.run_eql_slice_nil (P := Try.prog) w 27 34 a n c 0 0 under27
  go_enter Try.func29, Try.ntmps29
  go_wp2
  all_goals (go_ret; exact ⟨rfl, rfl⟩)

set_option maxHeartbeats 4000000 in
set_option maxRecDepth 1000000 in
theorem clone_some (w : World) (b o n cap : Nat) (xs : List Value) (hl : xs.length = n * 2) (hsrc : ∀ j u, xs[j]? = some u → w.cell? ⟨b, o + j, none⟩ = some u) (h1 : ∀ u ∈ xs, u.oneCell' = true) (hb : n * 16 ≤ 140737488355328) :
    Calls Try.prog 29 #[.slice (some ⟨b, o, none⟩) n cap] w fun e w' => ∃ v', e = .returned v' ∧ w'.ownsRow 0 34 2 v' n xs ∧ Fr (fun _ => False) w w' ∧ ∀ k, v'.ownBlock = some k → w.heap.size ≤ k := by
  obtain ⟨inf, z, z1, z2, z3, z4, z5⟩ := info34b
  obtain ⟨W, hW⟩ : ∃ W, W = w.alloc (.cells #[] 34) := ⟨_, rfl⟩
  have key : ∃ v' w', (Builtin.append_ #[27, 27] 27 #[.slice (some ⟨w.heap.size, 0, none⟩) 0 0, .slice (some ⟨b, o, none⟩) n cap]).run Try.prog W = .ok v' w' ∧ w'.ownsRow 0 34 2 v' (0 + n) ([] ++ xs) ∧ W.grownBy w' (some w.heap.size) ∧ (v'.ownBlock = some w.heap.size ∨ v'.ownBlock = some W.heap.size) :=
    append_own2 (P := Try.prog) W 27 27 34 inf z 2 16 under27 z1 z2 z3 z4 (by rw [z5]; rfl) (by omega) (.slice (some ⟨w.heap.size, 0, none⟩) 0 0) 0 [] (by rw [hW]; exact World.ownsRow_made w #[] 0 (Nat.zero_le _) (by unfold maxLen; omega) (by simp)) ⟨b, o, none⟩ n cap xs hl (fun j u hj => by
      rw [addr_add]
      have hc := hsrc j u hj
      have hbl : b < w.heap.size := World.block_lt_of_cell? w _ hc
      simp only [World.cell?] at hc ⊢
      rw [hW, heap_alloc_old w _ hbl]; exact hc) h1 (by unfold maxLen; omega) (by omega)
  rw [Nat.zero_add, List.nil_append] at key
  have hWs : W.heap.size = w.heap.size + 1 := by rw [hW]; simp
  obtain ⟨v', w', r1, r2, r3, r4⟩ := key
  have fin : Hid (w'.ownsRow 0 34 2 v' n xs ∧ Fr (fun _ => False) w w' ∧ ∀ k, v'.ownBlock = some k → w.heap.size ≤ k) := by
    refine ⟨r2, ?_, fun k hk => ?_⟩
    · rw [hW] at r3
      exact (Fr.alloc (fun _ => False) w _).trans (Fr.grown r3) (fun b hb e => by simp only [Option.some.injEq] at e; omega)
    · rcases r4 with r4 | r4 <;> rw [r4] at hk <;> simp only [Option.some.injEq] at hk <;> omega
  rw [hW] at r1
  clear r2 r3 r4 hsrc h1 hW hWs
  have eqn := fun (w : World) a n c => Lib.run_eql_slice_nil (P := Try.prog) w 27 34 a n c 0 0 under27
  go_enter Try.func29, Try.ntmps29
  go_wp2_with (at_builtin; refine Lib.wpList_append_run _ rfl _ _ _ _ rfl _ _ rfl rfl _ _ r1 ?_)
  go_ret
  exact ⟨v', rfl, fin.out⟩

/-- Delete, of a list of one's own. -/
theorem delete_own (w : World) (v : Value) (n i j : Nat) (xs : List Value) (hown : w.ownsRow 0 34 2 v n xs) (hij : i ≤ j) (hj : j ≤ n) (hone : ∀ u ∈ xs, u.oneCell' = true) :
    Calls Try.prog 34 #[v, .int .i64 i, .int .i64 j] w fun e w' => ∃ v', e = .returned v' ∧ w'.ownsRow 0 34 2 v' (i + (n - j)) (xs.take (i * 2) ++ xs.drop (j * 2)) ∧ Fr (fun b => v.ownBlock = some b) w w' ∧ v'.ownBlock = v.ownBlock := by
  obtain ⟨hl, hr⟩ := hown
  rcases hr with ⟨rfl, rfl⟩ | ⟨b, cap, cur, rfl, _, hg, hnc, hcm, hcs, ht⟩
  · have h0 : i = 0 := by omega
    have h1 : j = 0 := by omega
    subst h0; subst h1
    refine Calls.mono (delete_nil w) fun e w' h => ?_
    obtain ⟨e1, rfl⟩ := h
    have : xs = [] := List.length_eq_zero_iff.1 (by omega)
    subst this
    exact ⟨_, e1, World.ownsRow_nil w' 0 34 2, Fr.refl _ _, rfl⟩
  · by_cases he : i = j
    · subst he
      refine Calls.mono (delete_same (.slice (some ⟨b, 0, none⟩) n cap) i w b n cap rfl hj hnc hcm) fun e w' h => ?_
      obtain ⟨e1, rfl⟩ := h
      refine ⟨_, e1, ⟨?_, .inr ⟨b, cap, cur, by rw [show i + (n - i) = n by omega], Nat.zero_le _, hg, by omega, hcm, hcs, ?_⟩⟩, Fr.refl _ _, rfl⟩
      · rw [List.take_append_drop]; omega
      · rw [List.take_append_drop, show i + (n - i) = n by omega]; exact ht
    · refine Calls.mono (delete_walk i j w b n cap cur (by omega) hj hnc hcm hg hcs (by rw [ht]; exact hone)) fun e w' h => ?_
      obtain ⟨e1, cur', e2, e3, rfl⟩ := h
      rw [ht] at e3
      unfold delCells at e3
      refine ⟨_, e1, ⟨?_, .inr ⟨b, cap, cur', rfl, Nat.zero_le _, setRow_heap w.drew b cur _ 34 _ hg, by omega, hcm, by omega, e3⟩⟩, ?_, rfl⟩
      · rw [List.length_append, List.length_take, List.length_drop]; omega
      · exact ((Fr.drew _ w).trans (Fr.setRow b cur') (fun k _ e => by rw [e]; rfl))

noncomputable def deleteE (key : Nat) : Ent := ⟨key, 34, [.lst 34 tmR true, .sc (.i .i64), .sc (.i .i64)], [], [], .lst 34 tmR true,
  fun _ xs => cd (((dc (env xs 0)).take (env xs 1).toNat) ++ ((dc (env xs 0)).drop (env xs 2).toNat)),
  fun xs => 0 ≤ env xs 1 ∧ env xs 1 ≤ env xs 2 ∧ env xs 2 ≤ ((dc (env xs 0)).length : Int)⟩
noncomputable def cloneE (key : Nat) : Ent := ⟨key, 29, [.lst 34 tmR false], [], [], .lst 34 tmR true, fun _ xs => env xs 0, fun xs => ((dc (env xs 0)).length : Int) < cap8⟩

theorem delete_ok (G : Glob) (key : Nat) : EntryOK Try.prog G (deleteE key) := by
  intro xs hf hp w M0 Im0 hs hM hG hR
  match xs, hf with
  | [a, i, j], hf =>
    obtain ⟨_, hi, hj, _⟩ := hf
    obtain ⟨p1, p2, p3⟩ := hp
    have e0 : env [a, i, j] 0 = a := rfl
    have e1 : env [a, i, j] 1 = i := rfl
    have e2 : env [a, i, j] 2 = j := rfl
    obtain ⟨o1, o2, o3, o4, o5⟩ := relE_own (n := 0) (k := 0) hR (List.mem_cons_self ..)
    rw [e1] at p1 p2
    rw [e2] at p2 p3
    rw [e0] at p3 o1 o2 o3 o4 o5
    obtain ⟨q1, xs', q2, q3⟩ := o2
    have hin : (i.toNat : Int) = i := Int.toNat_of_nonneg p1
    have hjn : (j.toNat : Int) = j := Int.toNat_of_nonneg (by omega)
    have H := delete_own w _ (dc a).length i.toNat j.toNat xs' q2 (by omega) (by omega) q3.one
    have hargs : (SV.concL F0 (env [a, i, j]) hs (deleteE key).pgen.1).toArray = #[(hs 0).sl (dc a).length, .int .i64 i.toNat, .int .i64 j.toNat] := by
      show #[SV.conc F0 (env [a, i, j]) hs (.ls 0 (LEN (.var .x 0))), (E.var (.i .i64) 1).val F0 (env [a, i, j]), (E.var (.i .i64) 2).val F0 (env [a, i, j])] = _
      rw [o4, hin, hjn]
      have t1 : (E.var (.i .i64) 1).val F0 (env [a, i, j]) = .int .i64 i := by
        show Value.int .i64 (IntKind.i64.wrap i) = _
        exact congrArg _ hi
      have t2 : (E.var (.i .i64) 2).val F0 (env [a, i, j]) = .int .i64 j := by
        show Value.int .i64 (IntKind.i64.wrap j) = _
        exact congrArg _ hj
      rw [t1, t2]
    rw [hargs]
    refine Calls.mono H fun e w' h => ?_
    obtain ⟨v', r1, r2, r3, r4⟩ := h
    obtain ⟨hd', rfl⟩ := ownsRow_hd r2
    obtain ⟨z, hz⟩ : ∃ z, z = cd (((dc a).take i.toNat) ++ ((dc a).drop j.toNat)) := ⟨_, rfl⟩
    have hzl : (dc z).length = i.toNat + ((dc a).length - j.toNat) := by
      rw [hz, dc_cd, List.length_append, List.length_take, List.length_drop]; omega
    have hz3 : env ([a, i, j] ++ outsE (deleteE key).fn [a, i, j] 0 (deleteE key).oks) 3 = z := by rw [hz]; rfl
    have hT : Fr M0 w w' := by
      refine ⟨r3.os, r3.tape, r3.output, r3.size, fun k hk hn => r3.block k hk fun e => ?_⟩
      rcases o3 k e with h | h
      · exact hn h
      · omega
    have hO : OwL w' Im0 34 tmR hd' (dc z) := by
      refine ⟨by rw [hzl]; omega, _, by rw [hzl]; exact r2, ?_⟩
      rw [hz, dc_cd]
      have hq3 : RowsV w' Im0 tmR (dc a) xs' := RowsV_all q3
      exact (hq3.takeN _).append (hq3.dropN _)
    refine ⟨upd hs 1 hd', Im0, fun j hj => upd_other hs hd' (by have : j < 1 := hj; omega), fun _ h => h, fun b h => Or.inl h, ?_, ?_⟩
    · rw [r1]
      show _ = Ending.returned (SV.conc F0 _ (upd hs 1 hd') (.ls 1 (LEN (.var .x 3))))
      have : (LEN (.var .x 3)).den F0 (env ([a, i, j] ++ outsE (deleteE key).fn [a, i, j] 0 (deleteE key).oks)) = (i.toNat + ((dc a).length - j.toNat) : Nat) := by
        rw [BI_F0.len]
        have : (E.var .x 3).den F0 (env ([a, i, j] ++ outsE (deleteE key).fn [a, i, j] 0 (deleteE key).oks)) = z := hz3
        rw [this, hzl]
        exact wrap_len (by omega)
      simp only [SV.conc, upd_same, this, Int.toNat_natCast]
    · have := relE_ret (hs := hs) (nn := 1) (k := 3) (ys := [a, i, j] ++ outsE (deleteE key).fn [a, i, j] 0 (deleteE key).oks) hM hR.im hT (hd' := hd') (by rw [hz3, hz]; exact isCd_cd _) (by rw [hz3]; exact hO) (by
        rw [hz3, hzl]
        intro b hb
        rw [r4] at hb; exact o3 b hb)
      exact this

theorem rd_rows {w : World} {Im : Nat → Prop} {q : Row} : ∀ (l : RL) (b o : Nat), (∀ i r', l[i]? = some r' → ∃ us, RowV w Im q r' us ∧ ∀ j u, us[j]? = some u → w.cell? ⟨b, o + i * q.size + j, none⟩ = some u) →
    ∃ xs, RowsV w Im q l xs ∧ ∀ j u, xs[j]? = some u → w.cell? ⟨b, o + j, none⟩ = some u
  | [], b, o, _ => ⟨[], rfl, fun j u h => by simp at h⟩
  | r :: l, b, o, h => by
    obtain ⟨us, u1, u2⟩ := h 0 r rfl
    obtain ⟨ys, y1, y2⟩ := rd_rows l b (o + q.size) fun i r' hi => by
      obtain ⟨vs, v1, v2⟩ := h (i + 1) r' (by simpa using hi)
      refine ⟨vs, v1, fun j u hu => ?_⟩
      have := v2 j u hu
      rwa [Nat.succ_mul, show o + (i * q.size + q.size) + j = o + q.size + i * q.size + j by omega] at this
    refine ⟨us ++ ys, ⟨us, ys, rfl, u1, y1⟩, fun j u hu => ?_⟩
    have hl := u1.len.1
    by_cases hj : j < us.length
    · rw [List.getElem?_append_left hj] at hu
      have := u2 j u hu
      rwa [Nat.zero_mul, Nat.add_zero] at this
    · rw [List.getElem?_append_right (by omega)] at hu
      have := y2 (j - us.length) u hu
      rwa [show o + q.size + (j - us.length) = o + j by omega] at this

theorem clone_own (w : World) (Im : Nat → Prop) (h : Hd) (l : RL) (hsh : ShL w Im tmR h l) (hb : l.length * 16 ≤ 140737488355328) :
    Calls Try.prog 29 #[h.sl l.length] w fun e w' => ∃ v' xs, e = .returned v' ∧ w'.ownsRow 0 34 2 v' l.length xs ∧ RowsV w' Im tmR l xs ∧ Fr (fun _ => False) w w' ∧ ∀ k, v'.ownBlock = some k → w.heap.size ≤ k := by
  rcases sl_form h l.length with ⟨h1, h2⟩ | h1
  · rw [h1]
    have : l = [] := List.length_eq_zero_iff.1 h2
    subst this
    refine Calls.mono (clone_nil w) fun e w' hh => ?_
    obtain ⟨e1, rfl⟩ := hh
    exact ⟨_, [], e1, World.ownsRow_nil _ _ _ _, rfl, Fr.refl _ _, fun k hk => by simp [Value.ownBlock] at hk⟩
  · rw [h1]
    obtain ⟨xs, x1, x2⟩ := rd_rows l h.blk h.off hsh.2.2.2
    have hl := x1.len
    refine Calls.mono (clone_some w h.blk h.off l.length h.cap xs hl x2 x1.one hb) fun e w' hh => ?_
    obtain ⟨v', e1, e2, e3, e4⟩ := hh
    exact ⟨v', xs, e1, e2, RowsV_all x1, e3, e4⟩

theorem clone_ok (G : Glob) (key : Nat) : EntryOK Try.prog G (cloneE key) := by
  intro xs hf hp w M0 Im0 hs hM hG hR
  obtain ⟨a, rfl⟩ := List.length_eq_one_iff.1 (show xs.length = 1 from fits_length hf)
  · have e0 : env [a] 0 = a := rfl
    have hp : ((dc a).length : Int) < cap8 := hp
    unfold cap8 at hp
    obtain ⟨h1, _⟩ := hR.ent (0, mkB true, .lst 34 tmR false (LEN (.var .x 0)) (.var .x 0)) (List.mem_cons_self ..) (by simp)
    obtain ⟨a1, a2, a3⟩ := h1
    have hd : (E.var .x 0).den F0 (env [a]) = a := rfl
    rw [hd] at a1 a2 a3
    simp only [cond_false] at a3
    have H := clone_own w Im0 (hs 0) (dc a) a3 (by omega)
    have hargs : (SV.concL F0 (env [a]) hs (cloneE key).pgen.1).toArray = #[(hs 0).sl (dc a).length] := by
      show #[SV.conc F0 (env [a]) hs (.ls 0 (LEN (.var .x 0)))] = _
      simp only [SV.conc, a2, Int.toNat_natCast]
    rw [hargs]
    refine Calls.mono H fun e w' h => ?_
    obtain ⟨v', xs', r1, r2, r3, r4, r5⟩ := h
    obtain ⟨hd', rfl⟩ := ownsRow_hd r2
    have hz3 : env ([a] ++ outsE (cloneE key).fn [a] 0 (cloneE key).oks) 1 = a := rfl
    refine ⟨upd hs 1 hd', Im0, fun j hj => upd_other hs hd' (by have : j < 1 := hj; omega), fun _ h => h, fun b h => Or.inl h, ?_, ?_⟩
    · rw [r1]
      show _ = Ending.returned (SV.conc F0 _ (upd hs 1 hd') (.ls 1 (LEN (.var .x 1))))
      have : (LEN (.var .x 1)).den F0 (env ([a] ++ outsE (cloneE key).fn [a] 0 (cloneE key).oks)) = ((dc a).length : Nat) := by
        rw [BI_F0.len]
        exact wrap_len a3.1
      simp only [SV.conc, upd_same, this, Int.toNat_natCast]
    · have := relE_ret (hs := hs) (nn := 1) (k := 1) (ys := [a] ++ outsE (cloneE key).fn [a] 0 (cloneE key).oks) hM hR.im (r4.mono fun _ h => h.elim) (hd' := hd') (by rw [hz3]; exact a1)
        (by rw [hz3]; exact ⟨a3.1, xs', r2, RowsV_all r3⟩) (by
          rw [hz3]
          intro b hb
          exact Or.inr (r5 b hb))
      exact this

end Go.Proofs.Ytmolkkphnehgcaa.Ew
