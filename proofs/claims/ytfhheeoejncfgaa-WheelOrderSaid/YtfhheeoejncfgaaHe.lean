/- Layer 18, plain: timers that wait are moved; a whole tick. -/
import Derived.Test.YtfhheeoejncfgaaHd
set_option linter.unusedVariables false
set_option linter.unusedSimpArgs false
namespace Go.Proofs.Ytfhheeoejncfgaa.Ew
open Go Go.RowKit
noncomputable section

theorem waits_iff {now : Int} {T : RL} {i : Nat} : waits now T i = true ↔ now < gC T i 4 ∧ 1 ≤ gC T i 0 ∧ blk (gC T i 0) (gC T i 4) = blk (gC T i 0) now + 1 := by
  unfold waits; simp only [Bool.and_eq_true, decide_eq_true_eq]; exact ⟨fun h => ⟨h.1.1, h.1.2, h.2⟩, fun h => ⟨⟨h.1, h.2.1⟩, h.2.2⟩⟩

theorem WOK.in_wait {now bu le w : Int} {S T : RL} {Q : Nat → List Nat} (h : WOK now bu le S T Q w) {k : Int} (hk : 1 ≤ k ∧ k ≤ 3) {i : Nat} (hi : i ∈ Q (wK k now)) : i < T.length ∧ waits now T i = true := by
  have htm := h.tm
  have hil := h.lk.qc _ i hi
  obtain ⟨o1, o2⟩ := h.out _ i hi
  have hd : now < gC T i 4 := by
    by_cases hc : now < gC T i 4
    · exact hc
    · unfold locI wK at o2
      rw [if_pos (by omega)] at o2
      omega
  have hdr := h.dr i hil
  obtain ⟨p1, p2, p3, p4⟩ := h.pl i hil hd
  obtain ⟨_, _, f3, f4⟩ := h.of hil hd
  unfold locI wK at o2
  rw [if_neg (by omega)] at o2
  have hl0 : gC T i 0 = k := by omega
  refine ⟨hil, waits_iff.2 ⟨hd, by omega, ?_⟩⟩
  rw [hl0] at p2 p3 p4 o2 ⊢
  have q3 := p3 hk.1
  have : k = 1 ∨ k = 2 ∨ k = 3 := by omega
  rcases this with e | e | e <;> subst e
  · have q4 := p4 (by decide)
    rw [show (1 : Int) + 1 = 2 by decide, blk2, blk2] at q4
    simp only [blk1] at *
    omega
  · have q4 := p4 (by decide)
    rw [show (2 : Int) + 1 = 3 by decide, blk3, blk3] at q4
    simp only [blk2] at *
    omega
  · simp only [blk3] at *
    omega

theorem WOK.wait_in {now bu le w : Int} {S T : RL} {Q : Nat → List Nat} (h : WOK now bu le S T Q w) {i : Nat} (hi : i < T.length) (hw : waits now T i = true) : ∃ k : Int, (1 ≤ k ∧ k ≤ 3) ∧ i ∈ Q (wK k now) := by
  obtain ⟨w1, w2, w3⟩ := waits_iff.1 hw
  have htm := h.tm
  obtain ⟨p1, p2, _, _⟩ := h.pl i hi w1
  have hm := h.inn i hi (by omega)
  refine ⟨gC T i 0, ⟨w2, p1.2⟩, ?_⟩
  unfold locI at hm
  rw [if_neg (by omega), p2, w3] at hm
  exact hm

theorem WOK.wt_cnt {now bu le w : Int} {S T : RL} {Q : Nat → List Nat} (h : WOK now bu le S T Q w) {k : Int} (hk : 1 ≤ k ∧ k ≤ 3) : (gC S (wK k now) 2 = ((Q (wK k now)).length : Int)) ∧ gC S (wK k now) 0 = headP (Q (wK k now)) := by
  have hlt : wK k now < 2048 := wK_lt (by omega) hk.2
  obtain ⟨a0, _, a2⟩ := h.lk.hd (wK k now) (by omega)
  exact ⟨a2, a0⟩

theorem WOK.wait_pos {now bu le w : Int} {S T : RL} {Q : Nat → List Nat} (h : WOK now bu le S T Q w) (hw : wtF S now ≠ 0) : ∃ i : Nat, wtF S now = (i : Int) + 1 ∧ i < T.length ∧ waits now T i = true := by
  have key : ∀ k : Int, 1 ≤ k ∧ k ≤ 3 → 0 < gC S (wK k now) 2 → ∃ i : Nat, gC S (wK k now) 0 = (i : Int) + 1 ∧ i < T.length ∧ waits now T i = true := fun k hk hc => by
    obtain ⟨e1, e2⟩ := h.wt_cnt hk
    cases hq : Q (wK k now) with
    | nil => rw [e1, hq] at hc; exact absurd hc (by decide)
    | cons i r =>
      obtain ⟨g1, g2⟩ := h.in_wait hk (i := i) (by rw [hq]; simp)
      exact ⟨i, by rw [e2, hq]; rfl, g1, g2⟩
  unfold wtF at hw ⊢
  by_cases c1 : 0 < gC S (wK 1 now) 2
  · rw [if_pos c1]; exact key 1 (by decide) c1
  · rw [if_neg c1] at hw ⊢
    by_cases c2 : 0 < gC S (wK 2 now) 2
    · rw [if_pos c2]; exact key 2 (by decide) c2
    · rw [if_neg c2] at hw ⊢
      by_cases c3 : 0 < gC S (wK 3 now) 2
      · rw [if_pos c3]; exact key 3 (by decide) c3
      · rw [if_neg c3] at hw; exact absurd rfl hw

theorem WOK.wait_zero {now bu le w : Int} {S T : RL} {Q : Nat → List Nat} (h : WOK now bu le S T Q w) (hw : wtF S now = 0) : cntW now T = 0 := by
  refine cnt_zero fun i hi => ?_
  cases hc : waits now T i
  · rfl
  · exfalso
    obtain ⟨k, hk, hm⟩ := h.wait_in hi hc
    have pos : ∀ k : Int, 1 ≤ k ∧ k ≤ 3 → 0 < gC S (wK k now) 2 → 0 < gC S (wK k now) 0 := fun k hk hc => by
      obtain ⟨e1, e2⟩ := h.wt_cnt hk
      cases hq : Q (wK k now) with
      | nil => rw [e1, hq] at hc; exact absurd hc (by decide)
      | cons i r => rw [e2, hq]; simp only [headP]; omega
    have hpos : 0 < gC S (wK k now) 2 := by
      rw [(h.wt_cnt hk).1]
      have := List.length_pos_of_mem hm
      omega
    unfold wtF at hw
    by_cases c1 : 0 < gC S (wK 1 now) 2
    · rw [if_pos c1] at hw; have := pos 1 (by decide) c1; omega
    · rw [if_neg c1] at hw
      by_cases c2 : 0 < gC S (wK 2 now) 2
      · rw [if_pos c2] at hw; have := pos 2 (by decide) c2; omega
      · rw [if_neg c2] at hw
        by_cases c3 : 0 < gC S (wK 3 now) 2
        · rw [if_pos c3] at hw; have := pos 3 (by decide) c3; omega
        · have : k = 1 ∨ k = 2 ∨ k = 3 := by omega
          rcases this with e | e | e <;> subst e <;> omega

/-- The first timer that waits is moved. -/
def mvW (now : Int) (p : RL × RL) : RL × RL :=
  let i := (wtF p.1 now - 1).toNat
  let d := gC p.2 i 4
  let S1 := dropS p.1 (locI now p.2 i).toNat (gC p.2 i 2) (gC p.2 i 3)
  (putS S1 (kW now d).toNat i, putT (dropT p.2 i) i (lvF now d) (blk (lvF now d) d % 512) d (gC S1 (kW now d).toNat 1))

theorem lvF_less {now d lv : Int} (h : 1 ≤ lv ∧ lv ≤ 3) (hb : blk lv d = blk lv now + 1) : lvF now d < lv := by
  unfold lvF
  have : lv = 1 ∨ lv = 2 ∨ lv = 3 := by omega
  rcases this with e | e | e <;> subst e
  · rw [if_pos (by omega)]; decide
  · split
    · decide
    · rw [if_pos (by omega)]; decide
  · split
    · decide
    · split
      · decide
      · rw [if_pos (by omega)]; decide

theorem WOK.move {now bu le w : Int} {S T : RL} {Q : Nat → List Nat} (h : WOK now bu le S T Q w) {i : Nat} (hwt : wtF S now = (i : Int) + 1) (hi : i < T.length) (hw : waits now T i = true) :
    ∃ Q', WOK now bu le (mvW now (S, T)).1 (mvW now (S, T)).2 Q' (w - 1) ∧ (mvW now (S, T)).2.length = T.length ∧ (∀ y, gC (mvW now (S, T)).2 y 4 = gC T y 4) ∧ (∀ y, y ≠ i → gC (mvW now (S, T)).2 y 0 = gC T y 0) ∧ gC (mvW now (S, T)).2 i 0 < gC T i 0 ∧ 0 ≤ gC (mvW now (S, T)).2 i 0 ∧ Q' 2048 = Q 2048 := by
  obtain ⟨w1, w2, w3⟩ := waits_iff.1 hw
  have htm := h.tm
  obtain ⟨p1, _, _, _⟩ := h.pl i hi w1
  have hdr := h.dr i hi
  obtain ⟨A, B, hq, k1, k2, k3, k4⟩ := h.drop hi (by omega)
  obtain ⟨S1, eS⟩ : ∃ S1, S1 = dropS S (locI now T i).toNat (gC T i 2) (gC T i 3) := ⟨_, rfl⟩
  obtain ⟨T1, eT⟩ : ∃ T1, T1 = dropT T i := ⟨_, rfl⟩
  obtain ⟨d, ed⟩ : ∃ d, d = gC T i 4 := ⟨_, rfl⟩
  have em : mvW now (S, T) = (putS S1 (kW now d).toNat i, putT T1 i (lvF now d) (blk (lvF now d) d % 512) d (gC S1 (kW now d).toNat 1)) := by
    unfold mvW
    simp only [hwt, show ((i : Int) + 1 - 1).toNat = i by omega]
    rw [← eS, ← eT, ← ed]
  rw [em]
  rw [← eS, ← eT] at k1
  rw [← eT] at k2 k3 k4
  have hlt : (locI now T i).toNat < 2048 := h.loc_lt hi w1
  have hc1 : (cntW now T1 : Int) ≤ w - 1 := by
    have hu := cnt_upd (p := waits now T) (q := waits now T1) hi fun y _ he => by
      obtain ⟨e0, e1, e4⟩ := k3 y he
      unfold waits; rw [e0, e4]
    have hz : waits now T1 i = false := by
      cases hz : waits now T1 i
      · rfl
      · have := (waits_iff.1 hz).1; rw [k4] at this; omega
    rw [hw, hz] at hu
    have := h.wt
    unfold cntW at this ⊢
    rw [k2, hu]
    simp; omega
  have k1' : WOK now bu (le - 1) S1 T1 (uQ Q (locI now T i).toNat (A ++ B)) (w - 1) := { k1 with wt := hc1 }
  obtain ⟨m1, m2, m3, m4, m5, m6⟩ := k1'.put (d := d) (by rw [k2]; exact hi) k4 (by omega)
  have hK : (kW now d).toNat < 2048 := by
    have hb := blk_rng (lvF now d) (t := d) (by omega)
    have := lvF_rng now d
    unfold kW; rw [if_neg (by omega)]; omega
  refine ⟨_, by rw [show le = le - 1 + 1 by omega]; exact m1, by rw [m2, k2], fun y => ?_, fun y hy => ?_, ?_, ?_, ?_⟩
  · by_cases he : y = i
    · subst he; rw [m6, ed]
    · rw [(m3 y he).2.2, (k3 y he).2.2]
  · rw [(m3 y hy).1, (k3 y hy).1]
  · rw [m4, ed]; exact lvF_less ⟨w2, p1.2⟩ w3
  · rw [m4]; exact (lvF_rng now d).1
  · rw [uQ_ne _ _ (by omega), uQ_ne _ _ (by omega)]

/-- At most so many are moved. -/
def mvN (now : Int) : Nat → RL × RL → (RL × RL) × Int
  | 0, p => (p, 0)
  | n + 1, p => if wtF p.1 now = 0 then (p, 0) else ((mvN now n (mvW now p)).1, (mvN now n (mvW now p)).2 + 1)

/-- The sum of the levels. -/
def lvSum (T : RL) : Nat → Int
  | 0 => 0
  | n + 1 => lvSum T n + gC T n 0
theorem lvSum_upd {T T' : RL} {i : Nat} : ∀ {n : Nat}, i < n → (∀ y, y ≠ i → gC T' y 0 = gC T y 0) → lvSum T' n = lvSum T n - gC T i 0 + gC T' i 0
  | n + 1, hi, h => by
    have hc : ∀ m, m ≤ i → lvSum T' m = lvSum T m := fun m hm => by
      induction m with
      | zero => rfl
      | succ m ih => simp only [lvSum]; rw [ih (by omega), h m (by omega)]
    simp only [lvSum]
    by_cases hn : i = n
    · subst hn; rw [hc i (Nat.le_refl _)]; omega
    · rw [lvSum_upd (n := n) (by omega) h, h n (fun e => hn e.symm)]; omega
theorem lvSum_congr {T T' : RL} (h : ∀ y, gC T' y 0 = gC T y 0) : ∀ n, lvSum T' n = lvSum T n
  | 0 => rfl
  | n + 1 => by simp only [lvSum]; rw [lvSum_congr h n, h n]

theorem mvN_ok {now bu le : Int} : ∀ (n : Nat) (p : RL × RL) (Q : Nat → List Nat) (w : Int), WOK now bu le p.1 p.2 Q w →
    ∃ Q', WOK now bu le (mvN now n p).1.1 (mvN now n p).1.2 Q' (if (n : Int) ≤ w then w - n else 0) ∧ 0 ≤ (mvN now n p).2 ∧ (mvN now n p).2 ≤ n ∧ (mvN now n p).1.2.length = p.2.length ∧ (∀ y, gC (mvN now n p).1.2 y 4 = gC p.2 y 4) ∧
      lvSum (mvN now n p).1.2 p.2.length + (mvN now n p).2 ≤ lvSum p.2 p.2.length ∧ Q' 2048 = Q 2048
  | 0, p, Q, w, h => by
    have h0 := h.wt
    have e : (if ((0 : Nat) : Int) ≤ w then w - ((0 : Nat) : Int) else 0) = w := by rw [if_pos (by omega)]; omega
    exact ⟨Q, by rw [e]; exact h, by show (0 : Int) ≤ 0; omega, by show (0 : Int) ≤ ((0 : Nat) : Int); omega, rfl, fun _ => rfl, by show lvSum p.2 _ + 0 ≤ _; omega, rfl⟩
  | n + 1, p, Q, w, h => by
    by_cases hz : wtF p.1 now = 0
    · have hc := h.wait_zero hz
      have e : mvN now (n + 1) p = (p, 0) := if_pos hz
      rw [e]
      have h0 := h.wt
      refine ⟨Q, { h with wt := by rw [hc]; split <;> omega }, by show (0 : Int) ≤ 0; omega, by show (0 : Int) ≤ ((n + 1 : Nat) : Int); omega, rfl, fun _ => rfl, by show lvSum p.2 _ + 0 ≤ _; omega, rfl⟩
    · obtain ⟨i, hi1, hi2, hi3⟩ := h.wait_pos hz
      obtain ⟨Q1, m1, m2, m3, m4, m5, m6, m7⟩ := h.move hi1 hi2 hi3
      have hw1 : 1 ≤ w := by
        have := cnt_pos hi2 hi3
        have h0 := h.wt
        unfold cntW at h0; omega
      obtain ⟨Q2, r1, r2, r3, r4, r5, r6, r7⟩ := mvN_ok n (mvW now (p.1, p.2)) Q1 (w - 1) m1
      have e : mvN now (n + 1) p = ((mvN now n (mvW now p)).1, (mvN now n (mvW now p)).2 + 1) := if_neg hz
      rw [e]
      have hs := lvSum_upd (T := p.2) (T' := (mvW now (p.1, p.2)).2) hi2 m4
      rw [m2] at r6
      have ew : (if ((n + 1 : Nat) : Int) ≤ w then w - ((n + 1 : Nat) : Int) else 0) = if (n : Int) ≤ w - 1 then w - 1 - n else 0 := by
        by_cases c : (n : Int) ≤ w - 1
        · rw [if_pos c, if_pos (by omega)]; omega
        · rw [if_neg c, if_neg (by omega)]
      refine ⟨Q2, by rw [ew]; exact r1, by show 0 ≤ (mvN now n (mvW now p)).2 + 1; exact Int.le_add_one r2, ?_, by rw [← m2]; exact r4, fun y => (r5 y).trans (m3 y), ?_, r7.trans m7⟩
      · have : (mvN now n (mvW now p)).2 ≤ n := r3
        show (mvN now n (mvW now p)).2 + 1 ≤ ((n + 1 : Nat) : Int)
        omega
      · have : lvSum (mvN now n (mvW now p)).1.2 p.2.length + (mvN now n (mvW now p)).2 ≤ lvSum (mvW now p).2 p.2.length := r6
        have hs' : lvSum (mvW now p).2 p.2.length = lvSum p.2 p.2.length - gC p.2 i 0 + gC (mvW now p).2 i 0 := hs
        have m5' : gC (mvW now p).2 i 0 < gC p.2 i 0 := m5
        show lvSum (mvN now n (mvW now p)).1.2 p.2.length + ((mvN now n (mvW now p)).2 + 1) ≤ _
        omega

/-! ### a tick -/
abbrev W6 := Int × RL × RL
def joinW (k : Nat) (p : RL × RL) : RL × RL := if gC p.1 k 2 = 0 then p else (joinS p.1 k, joinT p.2 (gC p.1 k 0) (gC p.1 2048 1))
def tickW (now bu : Int) (p : RL × RL) : (RL × RL) × Int := if now = 1099511627776 then (p, 0) else mvN (now + 1) bu.toNat (joinW ((now + 1) % 512).toNat p)
def nowT (now : Int) : Int := if now = 1099511627776 then now else now + 1

theorem WOK.tick {now bu le : Int} {S T : RL} {Q : Nat → List Nat} (h : WOK now bu le S T Q (bu * (255 - now % 256))) :
    ∃ Q', WOK (nowT now) bu le (tickW now bu (S, T)).1.1 (tickW now bu (S, T)).1.2 Q' (bu * (255 - nowT now % 256)) ∧ 0 ≤ (tickW now bu (S, T)).2 ∧ (tickW now bu (S, T)).2 ≤ bu ∧ (tickW now bu (S, T)).1.2.length = T.length ∧
      (∀ y, gC (tickW now bu (S, T)).1.2 y 4 = gC T y 4) ∧ lvSum (tickW now bu (S, T)).1.2 T.length + (tickW now bu (S, T)).2 ≤ lvSum T T.length ∧
      Q' 2048 = Q 2048 ++ (if now = 1099511627776 then [] else Q ((now + 1) % 512).toNat) := by
  have hb := h.bg
  have htm := h.tm
  by_cases hM : now = 1099511627776
  · have e1 : tickW now bu (S, T) = ((S, T), 0) := if_pos hM
    have e2 : nowT now = now := if_pos hM
    rw [e1, e2, if_pos hM, List.append_nil]
    exact ⟨Q, h, by show (0 : Int) ≤ 0; omega, by show (0 : Int) ≤ bu; omega, rfl, fun _ => rfl, by show lvSum T _ + 0 ≤ _; omega, rfl⟩
  · have e2 : nowT now = now + 1 := if_neg hM
    obtain ⟨k, hk⟩ : ∃ k, k = ((now + 1) % 512).toNat := ⟨_, rfl⟩
    obtain ⟨j1, j2, j3⟩ := h.join (by omega) hk
    have ej : joinW k (S, T) = (if gC S k 2 = 0 then S else joinS S k, if gC S k 2 = 0 then T else joinT T (gC S k 0) (gC S 2048 1)) := by
      unfold joinW
      by_cases hc : gC S k 2 = 0 <;> simp [hc]
    have e1 : tickW now bu (S, T) = mvN (now + 1) bu.toNat (joinW k (S, T)) := by rw [hk]; exact if_neg hM
    rw [e1, e2, if_neg hM, ← hk]
    have j1' : WOK (now + 1) bu le (joinW k (S, T)).1 (joinW k (S, T)).2 (uQ (uQ Q 2048 (Q 2048 ++ Q k)) k []) (bu * (256 - (now + 1) % 256)) := by rw [ej]; exact j1
    have j2' : (joinW k (S, T)).2.length = T.length := by rw [ej]; exact j2
    have j3' : ∀ y j, j ≠ 2 → j ≠ 3 → gC (joinW k (S, T)).2 y j = gC T y j := by rw [ej]; exact j3
    obtain ⟨Q', r1, r2, r3, r4, r5, r6, r7⟩ := mvN_ok bu.toNat (joinW k (S, T)) _ _ j1'
    have hle : bu ≤ bu * (256 - (now + 1) % 256) := by
      have : bu * 1 ≤ bu * (256 - (now + 1) % 256) := Int.mul_le_mul_of_nonneg_left (by omega) (by omega)
      omega
    have ew : (if ((bu.toNat : Nat) : Int) ≤ bu * (256 - (now + 1) % 256) then bu * (256 - (now + 1) % 256) - ((bu.toNat : Nat) : Int) else 0) = bu * (255 - (now + 1) % 256) := by
      rw [if_pos (by omega), show ((bu.toNat : Nat) : Int) = bu by omega, show (256 : Int) - (now + 1) % 256 = (255 - (now + 1) % 256) + 1 by omega, Int.mul_add, Int.mul_one]
      omega
    rw [ew] at r1
    rw [j2'] at r4 r6
    rw [lvSum_congr (T := T) (T' := (joinW k (S, T)).2) (fun y => j3' y 0 (by decide) (by decide))] at r6
    refine ⟨Q', r1, r2, by omega, r4, fun y => (r5 y).trans (j3' y 4 (by decide) (by decide)), r6, ?_⟩
    rw [r7, uQ_ne _ _ (by omega), uQ_same]

end
end Go.Proofs.Ytfhheeoejncfgaa.Ew
