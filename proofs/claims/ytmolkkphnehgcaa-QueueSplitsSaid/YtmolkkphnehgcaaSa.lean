/- slices.Grow of the nil slice, as a summary: an empty list of the call's own. -/
import Derived.Test.YtmolkkphnehgcaaQd
import Derived.Test.YtmolkkphnehgcaaWr
set_option linter.unusedVariables false
set_option linter.unusedSimpArgs false
namespace Go.Proofs.Ytmolkkphnehgcaa.Ew
open Go Go.RowKit

noncomputable def growE (key f ty : Nat) (row : Row) : Ent := ⟨key, f, [.nul .nS, .sc (.i .i64)], [], [], .lst ty row true, fun _ _ => cd [], fun xs => 0 ≤ env xs 0 ∧ env xs 0 ≤ 100000⟩
theorem grow_ok {f key ty : Nat} {row : Row} (G : Glob) (inf : TypeInfo) (z : Value) (hz : z.cells.size = row.size) (hb : inf.bytes ≤ 1000)
    (h0 : ∀ w : World, Calls Try.prog f #[.slice none 0 0, .int .i64 0] w fun e w' => e = .returned (.slice none 0 0) ∧ w' = w)
    (h1 : ∀ (n : Nat) (w : World), 0 < n → n * inf.bytes ≤ 140737488355328 → n ≤ 4611686018427387904 → Calls Try.prog f #[.slice none 0 0, .int .i64 (n : Nat)] w fun e w' => e = .returned (.slice (some ⟨w.heap.size, 0, none⟩) 0 (grownCap w n 0 ty)) ∧
      w' = w.drew.alloc (.cells (Builtin.zeroCells z.cells n ++ Builtin.zeroCells z.cells (grownCap w n 0 ty - n)) ty)) : EntryOK Try.prog G (growE key f ty row) := by
  intro xs hf hp w M0 Im0 hs hM hG hR
  obtain ⟨n, rfl⟩ := List.length_eq_one_iff.1 (show xs.length = 1 from fits_length hf)
  have hn : 0 ≤ n ∧ n ≤ 100000 := hp
  have hw : IntKind.i64.wrap n = n := hf.1
  have hv : (E.var (.i .i64) 0).val F0 (env [n]) = .int .i64 n := by
    rw [E.val_i rfl]
    show Value.int .i64 (IntKind.i64.wrap n) = _
    rw [hw]
  have hargs : (SV.concL F0 (env [n]) hs (growE key f ty row).pgen.1).toArray = #[.slice none 0 0, .int .i64 n] := by
    show #[Value.slice none 0 0, (E.var (.i .i64) 0).val F0 (env [n])] = _
    rw [hv]
  rw [hargs]
  have hz1 : env ([n] ++ outsE (growE key f ty row).fn [n] 0 (growE key f ty row).oks) 1 = cd [] := rfl
  have fin : ∀ (w' : World) (hd' : Hd), Fr (fun _ => False) w w' → w'.ownsRow 0 ty row.size (hd'.sl 0) 0 [] → (∀ b, (hd'.sl 0).ownBlock = some b → w.heap.size ≤ b) →
      ∃ (hs' : Nat → Hd) (Im' : Nat → Prop), (∀ j, j < (growE key f ty row).nn → hs' j = hs j) ∧ (∀ b, Im0 b → Im' b) ∧ (∀ b, Im' b → Im0 b ∨ M0 b ∨ w.heap.size ≤ b) ∧
      Ending.returned (hd'.sl 0) = .returned ((lastV (growE key f ty row).ogen.1).conc F0 (env ([n] ++ outsE (growE key f ty row).fn [n] 0 (growE key f ty row).oks)) hs') ∧ RelE F0 (env ([n] ++ outsE (growE key f ty row).fn [n] 0 (growE key f ty row).oks)) w M0 Im' hs' (growE key f ty row).oents w' := by
    intro w' hd' hfr hown hblk
    refine ⟨upd hs 0 hd', Im0, fun j hj => absurd hj (Nat.not_lt_zero _), fun _ h => h, fun b h => Or.inl h, ?_, ?_⟩
    · show _ = Ending.returned (SV.conc F0 _ (upd hs 0 hd') (.ls 0 (LEN (.var .x 1))))
      have : (LEN (.var .x 1)).den F0 (env ([n] ++ outsE (growE key f ty row).fn [n] 0 (growE key f ty row).oks)) = ((0 : Nat) : Int) := by
        rw [BI_F0.len]
        show IntKind.i64.wrap ((dc (cd [])).length : Int) = _
        rw [dc_cd]; rfl
      simp only [SV.conc, upd_same, this, Int.toNat_natCast]
    · have := relE_ret (ty := ty) (q := row) (hs := hs) (nn := 0) (k := 1) (ys := [n] ++ outsE (growE key f ty row).fn [n] 0 (growE key f ty row).oks) hM hR.im (hfr.mono fun _ h => h.elim) (hd' := hd') (by rw [hz1]; exact isCd_cd _)
        (by rw [hz1, dc_cd]; exact ⟨Nat.zero_le _, [], hown, rfl⟩) (by
          rw [hz1, dc_cd]
          intro b hb
          exact Or.inr (hblk b hb))
      exact this
  by_cases h : n = 0
  · subst h
    refine (h0 w).mono ?_
    rintro e w' ⟨rfl, rfl⟩
    exact fin w' { blk := 0, nil := true } (Fr.refl _ _) ⟨by simp, Or.inl ⟨rfl, rfl⟩⟩ (fun b hb => by cases hb)
  · obtain ⟨k, rfl⟩ : ∃ k : Nat, n = (k : Int) := ⟨n.toNat, by omega⟩
    have hk : 0 < k ∧ k ≤ 100000 := by omega
    refine (h1 k w hk.1 (Nat.le_trans (Nat.mul_le_mul hk.2 hb) (by decide)) (by omega)).mono ?_
    rintro e w' ⟨rfl, rfl⟩
    obtain ⟨C, hC⟩ : ∃ C, C = grownCap w k 0 ty := ⟨_, rfl⟩
    have hge : k ≤ C := by rw [hC]; exact grownCap_ge w _ _ _
    have hle : C ≤ maxLen := by rw [hC]; exact grownCap_le_maxLen w k 0 ty (by unfold maxLen; omega)
    rw [← hC]
    refine fin _ { blk := w.heap.size, off := 0, cap := C, nil := false } ((Fr.drew _ _).trans (Fr.alloc _ _ _) fun _ _ h => h) ⟨by simp, Or.inr ⟨w.heap.size, C, _, rfl, Nat.zero_le _, heap_alloc_new w.drew _, Nat.zero_le _, hle, ?_, ?_⟩⟩ (fun b hb => by
      have : w.heap.size = b := by simpa [Hd.sl, Value.ownBlock] using hb
      omega)
    · simp only [Array.size_append, size_zeroCells, hz]
      rw [← Nat.add_mul]
      congr 1; omega
    · simp
end Go.Proofs.Ytmolkkphnehgcaa.Ew
