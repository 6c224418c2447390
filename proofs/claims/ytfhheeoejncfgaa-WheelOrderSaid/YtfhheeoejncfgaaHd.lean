/- Layer 18, plain: a tick: what becomes due; what waits, and is moved. -/
import Derived.Test.YtfhheeoejncfgaaHc
set_option linter.unusedVariables false
set_option linter.unusedSimpArgs false
namespace Go.Proofs.Ytfhheeoejncfgaa.Ew
open Go Go.RowKit
noncomputable section

theorem blk_step {lv now : Int} (h : 1 ≤ lv ∧ lv ≤ 3) (h0 : 0 ≤ now) : blk lv (now + 1) = blk lv now ∨ (now % 256 = 255 ∧ blk lv (now + 1) = blk lv now + 1) := by
  have : lv = 1 ∨ lv = 2 ∨ lv = 3 := by omega
  rcases this with e | e | e <;> subst e <;> simp only [blk1, blk2, blk3] <;> omega
theorem blk_mono {lv now : Int} (h : 1 ≤ lv ∧ lv ≤ 4) (h0 : 0 ≤ now) : blk lv now ≤ blk lv (now + 1) := by
  have : lv = 1 ∨ lv = 2 ∨ lv = 3 ∨ lv = 4 := by omega
  rcases this with e | e | e | e <;> subst e <;> simp only [blk1, blk2, blk3, blk4] <;> omega
theorem joinT_cells {T : RL} {cap : Nat} {f bl : Int} (h : Wid T cap 5) (hf : 0 < f ∧ f ≤ cap) (hb : 0 ≤ bl ∧ bl ≤ cap) : Wid (joinT T f bl) cap 5 ∧ ∀ y j, j ≠ 2 → j ≠ 3 → gC (joinT T f bl) y j = gC T y j := by
  have s1 : Wid (if 0 < bl then setC T (bl - 1).toNat 3 [f] else T) cap 5 ∧ ∀ y j, j ≠ 3 → gC (if 0 < bl then setC T (bl - 1).toNat 3 [f] else T) y j = gC T y j := by
    split
    · exact ⟨h.set (by omega) (by simp), fun y j hj => by rw [h.c1 (by omega) (by decide), if_neg (by omega)]⟩
    · exact ⟨h, fun _ _ _ => rfl⟩
  unfold joinT
  exact ⟨s1.1.set (by omega) (by simp), fun y j h2 h3 => by rw [s1.1.c1 (by omega) (by decide), if_neg (by omega), s1.2 y j h3]⟩
theorem rows_joinT {T : RL} {cap : Nat} {f bl : Int} (hr : rowsOK k5 T) (h : Wid T cap 5) (hc : cap ≤ 4096) (hf : 0 < f ∧ f ≤ cap) (hb : 0 ≤ bl ∧ bl ≤ cap) : rowsOK k5 (joinT T f bl) := by
  have s1 : Wid (if 0 < bl then setC T (bl - 1).toNat 3 [f] else T) cap 5 ∧ rowsOK k5 (if 0 < bl then setC T (bl - 1).toNat 3 [f] else T) := by
    split
    · exact ⟨h.set (by omega) (by simp), rows_setC hr (by rw [h.1]; omega) ⟨w64 (by omega) (by omega), trivial⟩ (by simp [k5])⟩
    · exact ⟨h, hr⟩
  unfold joinT
  exact rows_setC s1.2 (by rw [s1.1.1]; omega) ⟨w64 (by omega) (by omega), trivial⟩ (by simp [k5])
theorem rows_joinS {S : RL} {k c : Nat} (hr : rowsOK k3 S) (h : Wid S 2049 3) (hk : k < 2048) (hc : c ≤ 4096) (h0 : 0 ≤ gC S k 0 ∧ gC S k 0 ≤ c) (h1 : 0 ≤ gC S k 1 ∧ gC S k 1 ≤ c) (h2 : 0 ≤ gC S k 2 ∧ gC S k 2 ≤ c) (h3 : 0 ≤ gC S 2048 2 ∧ gC S 2048 2 ≤ c) : rowsOK k3 (joinS S k) := by
  obtain ⟨S1, e1⟩ : ∃ S1, S1 = if 0 < gC S 2048 1 then S else setC S 2048 0 [gC S k 0] := ⟨_, rfl⟩
  have s1 : Wid S1 2049 3 ∧ rowsOK k3 S1 ∧ gC S1 2048 2 = gC S 2048 2 := by
    rw [e1]
    split
    · exact ⟨h, hr, rfl⟩
    · exact ⟨h.set (by omega) (by simp), rows_setC hr (by rw [h.1]; omega) ⟨w64 (by omega) (by omega), trivial⟩ (by simp [k3]), by rw [h.c1 (by omega) (by decide), if_neg (by omega)]⟩
  obtain ⟨a1, a2, a3⟩ := s1
  have b1 := a1.set (i := 2048) (j := 1) (vs := [gC S k 1]) (by omega) (by simp)
  have b2 := rows_setC (i := 2048) (j := 1) (vs := [gC S k 1]) a2 (by rw [a1.1]; omega) ⟨w64 (by omega) (by omega), trivial⟩ (by simp [k3])
  have b3 : gC (setC S1 2048 1 [gC S k 1]) 2048 2 = gC S 2048 2 := by rw [a1.c1 (by omega) (by decide), if_neg (by omega), a3]
  have c1 := b1.set (i := 2048) (j := 2) (vs := [gC S 2048 2 + gC S k 2]) (by omega) (by simp)
  have c2 := rows_setC (i := 2048) (j := 2) (vs := [gC S 2048 2 + gC S k 2]) b2 (by rw [b1.1]; omega) ⟨w64 (by omega) (by omega), trivial⟩ (by simp [k3])
  have e3 : joinS S k = setC (setC (setC S1 2048 1 [gC S k 1]) 2048 2 [gC (setC S1 2048 1 [gC S k 1]) 2048 2 + gC S k 2]) k 0 [0, 0, 0] := by unfold joinS; rw [e1]
  rw [e3, b3]
  exact rows_setC c2 (by rw [c1.1]; omega) ⟨rfl, rfl, rfl, trivial⟩ (by simp [k3])

theorem WOK.loc_lt {now bu le w : Int} {S T : RL} {Q : Nat → List Nat} (h : WOK now bu le S T Q w) {i : Nat} (hi : i < T.length) (hd : now < gC T i 4) : (locI now T i).toNat < 2048 := by
  have := h.of hi hd
  unfold locI; rw [if_neg (by omega)]; omega
theorem WOK.noWait {now bu le : Int} {S T : RL} {Q : Nat → List Nat} (h : WOK now bu le S T Q (bu * (255 - now % 256))) (hb : now % 256 = 255) {i : Nat} (hi : i < T.length) : waits now T i = false := by
  have h0 := h.wt
  rw [hb, show (255 : Int) - 255 = 0 by decide, Int.mul_zero] at h0
  cases hw : waits now T i
  · rfl
  · have := cnt_pos hi hw
    unfold cntW at h0; omega
/-- A timer's deadline is the next time just if it is in that time's list of level 0. -/
theorem WOK.due {now bu le : Int} {S T : RL} {Q : Nat → List Nat} (h : WOK now bu le S T Q (bu * (255 - now % 256))) (i : Nat) : i ∈ Q ((now + 1) % 512).toNat ↔ i < T.length ∧ gC T i 4 = now + 1 := by
  have htm := h.tm
  constructor
  · intro hi
    have hil := h.lk.qc _ i hi
    obtain ⟨o1, o2⟩ := h.out _ i hi
    refine ⟨hil, ?_⟩
    have hd : now < gC T i 4 := by
      by_cases hc : now < gC T i 4
      · exact hc
      · unfold locI at o2
        rw [if_pos (by omega)] at o2
        omega
    obtain ⟨p1, p2, p3, p4⟩ := h.pl i hil hd
    obtain ⟨_, _, f3, f4⟩ := h.of hil hd
    unfold locI at o2
    rw [if_neg (by omega)] at o2
    have hl0 : gC T i 0 = 0 := by omega
    rw [hl0] at p2 p4 o2
    have p4' := p4 (by decide)
    rw [blk0] at p2
    rw [show (0 : Int) + 1 = 1 by decide, blk1, blk1] at p4'
    omega
  · rintro ⟨hil, hd⟩
    obtain ⟨p1, p2, p3, p4⟩ := h.pl i hil (by omega)
    have hl0 : gC T i 0 = 0 := by
      by_cases hc : gC T i 0 = 0
      · exact hc
      · exfalso
        have q := p3 (by omega)
        rw [hd] at q
        rcases blk_step (lv := gC T i 0) (by omega) htm.1 with e | ⟨e1, e2⟩
        · omega
        · have hw := h.noWait e1 hil
          unfold waits at hw
          rw [hd, e2] at hw
          have a1 : now < now + 1 := by omega
          have a2 : 1 ≤ gC T i 0 := by omega
          simp [a1, a2] at hw
    have hm := h.inn i hil (by omega)
    unfold locI at hm
    rw [if_neg (by omega), p2, hl0, blk0, hd] at hm
    have e : (0 * 512 + (now + 1) % 512).toNat = ((now + 1) % 512).toNat := by omega
    rwa [e] at hm

/-- The time is a later one by 1; what is due is behind the backlog. -/
theorem WOK.join {now bu le : Int} {S T : RL} {Q : Nat → List Nat} (h : WOK now bu le S T Q (bu * (255 - now % 256))) (hM : now < 1099511627776) {k : Nat} (hk : k = ((now + 1) % 512).toNat) :
    WOK (now + 1) bu le (if gC S k 2 = 0 then S else joinS S k) (if gC S k 2 = 0 then T else joinT T (gC S k 0) (gC S 2048 1)) (uQ (uQ Q 2048 (Q 2048 ++ Q k)) k []) (bu * (256 - (now + 1) % 256)) ∧
      (if gC S k 2 = 0 then T else joinT T (gC S k 0) (gC S 2048 1)).length = T.length ∧
      ∀ y j, j ≠ 2 → j ≠ 3 → gC (if gC S k 2 = 0 then T else joinT T (gC S k 0) (gC S 2048 1)) y j = gC T y j := by
  have htm := h.tm
  have hct := h.ct
  have hdue := h.due
  rw [← hk] at hdue
  have hk8 : k < 512 := by omega
  obtain ⟨d0, d1, d2⟩ := h.lk.hd k (by omega)
  obtain ⟨b0, b1, b2⟩ := h.lk.hd 2048 (by omega)
  have bnd : ∀ m, (Q m).length ≤ T.length := fun m => nodup_len (h.lk.nd m) fun a ha => h.lk.qc _ a ha
  have main : Lk (if gC S k 2 = 0 then T else joinT T (gC S k 0) (gC S 2048 1)) (if gC S k 2 = 0 then S else joinS S k) (uQ (uQ Q 2048 (Q 2048 ++ Q k)) k []) T.length ∧
      rowsOK k3 (if gC S k 2 = 0 then S else joinS S k) ∧ rowsOK k5 (if gC S k 2 = 0 then T else joinT T (gC S k 0) (gC S 2048 1)) ∧
      ∀ y j, j ≠ 2 → j ≠ 3 → gC (if gC S k 2 = 0 then T else joinT T (gC S k 0) (gC S 2048 1)) y j = gC T y j := by
    by_cases hc : gC S k 2 = 0
    · have hq : Q k = [] := List.length_eq_zero_iff.1 (by omega)
      have hQ : uQ (uQ Q 2048 (Q 2048 ++ Q k)) k [] = Q := by
        funext m
        unfold uQ
        by_cases h1 : m = k
        · rw [if_pos h1, h1, hq]
        · rw [if_neg h1]
          by_cases h2 : m = 2048
          · rw [if_pos h2, h2, hq, List.append_nil]
          · rw [if_neg h2]
      simp only [if_pos hc, hQ]
      exact ⟨h.lk, h.rS, h.rT, fun _ _ _ _ => trivial⟩
    · have hne : Q k ≠ [] := fun e => hc (by rw [d2, e]; rfl)
      simp only [if_neg hc]
      have f0 : 0 < gC S k 0 ∧ gC S k 0 ≤ (T.length : Int) := by
        rw [d0]
        refine ⟨?_, headP_le fun a ha => h.lk.qc _ a ha⟩
        cases hq : Q k with
        | nil => exact absurd hq hne
        | cons a r => simp only [headP]; omega
      have f1 : 0 ≤ gC S k 1 ∧ gC S k 1 ≤ (T.length : Int) := by rw [d1]; exact ⟨lastP_nonneg _, lastP_le fun a ha => h.lk.qc _ a ha⟩
      have fb : 0 ≤ gC S 2048 1 ∧ gC S 2048 1 ≤ (T.length : Int) := by rw [b1]; exact ⟨lastP_nonneg _, lastP_le fun a ha => h.lk.qc _ a ha⟩
      have n1 := bnd k
      have n2 := bnd 2048
      exact ⟨h.lk.join (by omega) hne, rows_joinS h.rS h.lk.sw (by omega) hct.2.1 (by omega) f1 (by omega) (by omega), rows_joinT h.rT h.lk.tw hct.2.1 f0 fb, (joinT_cells h.lk.tw f0 fb).2⟩
  obtain ⟨S', eS⟩ : ∃ S', S' = if gC S k 2 = 0 then S else joinS S k := ⟨_, rfl⟩
  obtain ⟨T', eT⟩ : ∃ T', T' = if gC S k 2 = 0 then T else joinT T (gC S k 0) (gC S 2048 1) := ⟨_, rfl⟩
  rw [← eS, ← eT] at main ⊢
  obtain ⟨m1, m2, m3, m4⟩ := main
  have hl : T'.length = T.length := m1.tw.1
  have g0 := fun y => m4 y 0 (by decide) (by decide)
  have g1 := fun y => m4 y 1 (by decide) (by decide)
  have g4 := fun y => m4 y 4 (by decide) (by decide)
  have hU : ∀ m, uQ (uQ Q 2048 (Q 2048 ++ Q k)) k [] m = if m = k then [] else if m = 2048 then Q 2048 ++ Q k else Q m := fun m => rfl
  have hloc : ∀ y, now + 1 < gC T y 4 → locI (now + 1) T' y = locI now T y := fun y hd => by
    unfold locI; rw [g0, g1, g4, if_neg (by omega), if_neg (by omega)]
  have hloc2 : ∀ y, gC T y 4 ≤ now + 1 → locI (now + 1) T' y = 2048 := fun y hd => by
    unfold locI; rw [g4, if_pos hd]
  refine ⟨⟨by omega, h.bg, by rw [hl]; exact hct, m2, m3, by rw [hl]; exact m1, fun y hyl hyd => ?_, fun m y hm => ?_, fun y hyl => ?_, fun y hyl hyd => ?_, ?_, ?_⟩, hl, m4⟩
  · rw [hl] at hyl
    rw [g4] at hyd
    by_cases c1 : gC T y 4 ≤ now + 1
    · rw [hloc2 y c1, show (2048 : Int).toNat = 2048 from rfl, hU, if_neg (by omega), if_pos rfl]
      by_cases c2 : gC T y 4 ≤ now
      · have := h.inn y hyl hyd
        unfold locI at this
        rw [if_pos c2] at this
        exact List.mem_append_left _ this
      · exact List.mem_append_right _ ((hdue y).2 ⟨hyl, by omega⟩)
    · have h1 := h.inn y hyl hyd
      have hlt := h.loc_lt hyl (by omega)
      rw [hloc y (by omega), hU, if_neg (fun e => by rw [e] at h1; have := ((hdue y).1 h1).2; omega), if_neg (by omega)]
      exact h1
  · rw [hU] at hm
    by_cases c1 : m = k
    · rw [if_pos c1] at hm; cases hm
    · rw [if_neg c1] at hm
      rw [g4]
      by_cases c2 : m = 2048
      · rw [if_pos c2] at hm
        rcases List.mem_append.1 hm with h1 | h1
        · obtain ⟨o1, o2⟩ := h.out _ y h1
          have hyl := h.lk.qc _ y h1
          have : gC T y 4 ≤ now := by
            by_cases hc : gC T y 4 ≤ now
            · exact hc
            · have := h.loc_lt hyl (by omega); omega
          rw [hloc2 y (by omega)]
          exact ⟨o1, by omega⟩
        · obtain ⟨e1, e2⟩ := (hdue y).1 h1
          rw [hloc2 y (by omega)]
          exact ⟨by omega, by omega⟩
      · rw [if_neg c2] at hm
        obtain ⟨o1, o2⟩ := h.out _ y hm
        have hyl := h.lk.qc _ y hm
        have c3 : now < gC T y 4 := by
          by_cases hc : gC T y 4 ≤ now
          · unfold locI at o2
            rw [if_pos hc] at o2; omega
          · omega
        have c4 : gC T y 4 ≠ now + 1 := fun e => c1 (h.lk.dj _ _ y hm ((hdue y).2 ⟨hyl, e⟩))
        rw [hloc y (by omega)]
        exact ⟨o1, o2⟩
  · rw [hl] at hyl
    rw [g4]
    have := h.dr y hyl
    omega
  · rw [hl] at hyl
    rw [g4] at hyd
    rw [g0, g1, g4]
    obtain ⟨p1, p2, p3, p4⟩ := h.pl y hyl (by omega)
    refine ⟨p1, p2, fun h1 => ?_, fun h3 => ?_⟩
    · have q := p3 h1
      rcases blk_step (lv := gC T y 0) (by omega) htm.1 with e | ⟨e1, e2⟩
      · omega
      · have hw := h.noWait e1 hyl
        have hne : blk (gC T y 0) (gC T y 4) ≠ blk (gC T y 0) now + 1 := fun e => by
          unfold waits at hw
          have a1 : now < gC T y 4 := by omega
          simp [a1, h1, e] at hw
        omega
    · have q := p4 h3
      have := blk_mono (lv := gC T y 0 + 1) (now := now) (by omega) htm.1
      omega
  · by_cases hb : now % 256 = 255
    · have e : (now + 1) % 256 = 0 := by omega
      rw [e]
      have := cnt_le (waits (now + 1) T') T'.length
      unfold cntW
      rw [hl] at this ⊢
      have h3 := hct.2.2
      rw [Int.mul_comm]
      show _ ≤ (256 - 0) * bu
      omega
    · have e : (256 : Int) - (now + 1) % 256 = 255 - now % 256 := by omega
      rw [e]
      refine Int.le_trans ?_ h.wt
      unfold cntW
      rw [hl]
      refine Int.ofNat_le.2 (cnt_mono fun y hyl hw => ?_)
      unfold waits at hw ⊢
      rw [g0, g4] at hw
      simp only [Bool.and_eq_true, decide_eq_true_eq] at hw ⊢
      obtain ⟨⟨w1, w2⟩, w3⟩ := hw
      obtain ⟨p1, _⟩ := h.pl y hyl (by omega)
      rcases blk_step (lv := gC T y 0) (by omega) htm.1 with e | ⟨e1, e2⟩
      · rw [e] at w3
        exact ⟨⟨by omega, w2⟩, w3⟩
      · exact absurd e1 hb
  · rw [h.ln]
    unfold cntD
    rw [hl]
    congr 1
    exact cnt_congr fun y _ => by rw [g4]

end
end Go.Proofs.Ytfhheeoejncfgaa.Ew
