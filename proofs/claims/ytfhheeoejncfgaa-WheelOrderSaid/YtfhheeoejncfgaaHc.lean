/- Layer 18, plain: what a wheel's rows hold between calls; timers put, taken out and moved. -/
import Derived.Test.YtfhheeoejncfgaaHb
set_option linter.unusedVariables false
set_option linter.unusedSimpArgs false
namespace Go.Proofs.Ytfhheeoejncfgaa.Ew
open Go Go.RowKit
noncomputable section

theorem blk0 (t : Int) : blk 0 t = t := by simp [blk]
theorem blk1 (t : Int) : blk 1 t = t / 256 := rfl
theorem blk2 (t : Int) : blk 2 t = t / 65536 := rfl
theorem blk3 (t : Int) : blk 3 t = t / 16777216 := rfl
theorem blk4 (t : Int) : blk 4 t = t / 4294967296 := rfl

def cnt (n : Nat) (p : Nat → Bool) : Nat := (List.range n).countP p
theorem cnt_succ (n : Nat) (p : Nat → Bool) : cnt (n + 1) p = cnt n p + (if p n = true then 1 else 0) := by
  unfold cnt; rw [List.range_succ, List.countP_append, List.countP_singleton]
theorem cnt_congr {p q : Nat → Bool} : ∀ {n : Nat}, (∀ j < n, p j = q j) → cnt n p = cnt n q
  | 0, _ => rfl
  | n + 1, h => by rw [cnt_succ, cnt_succ, cnt_congr (n := n) fun j hj => h j (by omega), h n (by omega)]
theorem cnt_le (p : Nat → Bool) : ∀ n : Nat, cnt n p ≤ n
  | 0 => Nat.le_refl _
  | n + 1 => by rw [cnt_succ]; have := cnt_le p n; split <;> omega
theorem cnt_mono {p q : Nat → Bool} : ∀ {n : Nat}, (∀ j < n, p j = true → q j = true) → cnt n p ≤ cnt n q
  | 0, _ => Nat.le_refl _
  | n + 1, h => by
    rw [cnt_succ, cnt_succ]
    have h1 := cnt_mono (n := n) fun j hj => h j (by omega)
    have h2 := h n (by omega)
    cases hp : p n <;> cases hq : q n <;> simp_all <;> omega
theorem cnt_pos {p : Nat → Bool} : ∀ {n i : Nat}, i < n → p i = true → 0 < cnt n p
  | n + 1, i, hi, hp => by
    rw [cnt_succ]
    by_cases h : i = n
    · subst h; rw [if_pos hp]; omega
    · have := cnt_pos (n := n) (i := i) (by omega) hp; omega
theorem cnt_zero {p : Nat → Bool} {n : Nat} (h : ∀ j < n, p j = false) : cnt n p = 0 := by
  unfold cnt
  rw [List.countP_eq_zero]
  intro j hj
  rw [h j (List.mem_range.1 hj)]; decide
theorem cnt_upd {p q : Nat → Bool} {i : Nat} : ∀ {n : Nat}, i < n → (∀ j < n, j ≠ i → q j = p j) → (cnt n q : Int) = cnt n p - (if p i = true then 1 else 0) + (if q i = true then 1 else 0)
  | n + 1, hi, h => by
    rw [cnt_succ, cnt_succ]
    by_cases hn : i = n
    · subst hn
      rw [cnt_congr (n := i) (p := q) (q := p) fun j hj => h j (by omega) (by omega)]
      cases p i <;> cases q i <;> simp <;> omega
    · have := cnt_upd (n := n) (i := i) (by omega) fun j hj hne => h j (by omega) hne
      have hq := h n (by omega) (fun e => hn e.symm)
      rw [hq]
      split <;> omega

/-- A timer that waits for being moved. -/
def waits (now : Int) (T : RL) (i : Nat) : Bool := decide (now < gC T i 4) && decide (1 ≤ gC T i 0) && decide (blk (gC T i 0) (gC T i 4) = blk (gC T i 0) now + 1)
def cntW (now : Int) (T : RL) : Nat := cnt T.length (waits now T)
def cntD (T : RL) : Nat := cnt T.length fun i => decide (0 < gC T i 4)

/-- What a wheel's rows hold; w: so many timers may wait. -/
structure WOK (now bu le : Int) (S T : RL) (Q : Nat → List Nat) (w : Int) : Prop where
  tm : 0 ≤ now ∧ now ≤ 1099511627776
  bg : 1 ≤ bu ∧ bu ≤ 4096
  ct : 0 < T.length ∧ T.length ≤ 4096 ∧ (T.length : Int) ≤ 256 * bu
  rS : rowsOK k3 S
  rT : rowsOK k5 T
  lk : Lk T S Q T.length
  inn : ∀ i < T.length, 0 < gC T i 4 → i ∈ Q (locI now T i).toNat
  out : ∀ k i, i ∈ Q k → 0 < gC T i 4 ∧ (locI now T i).toNat = k
  dr : ∀ i < T.length, 0 ≤ gC T i 4 ∧ gC T i 4 ≤ now + 2147483648
  pl : ∀ i < T.length, now < gC T i 4 → (0 ≤ gC T i 0 ∧ gC T i 0 ≤ 3) ∧ gC T i 1 = blk (gC T i 0) (gC T i 4) % 512 ∧ (1 ≤ gC T i 0 → blk (gC T i 0) now < blk (gC T i 0) (gC T i 4)) ∧ (gC T i 0 < 3 → blk (gC T i 0 + 1) (gC T i 4) ≤ blk (gC T i 0 + 1) now + 1)
  wt : (cntW now T : Int) ≤ w
  ln : le = (cntD T : Int)

theorem WOK.of {now bu le w : Int} {S T : RL} {Q : Nat → List Nat} (h : WOK now bu le S T Q w) {i : Nat} (hi : i < T.length) : ofOK now T i := fun hd => by
  obtain ⟨p1, p2, _, _⟩ := h.pl i hi hd
  rw [p2]
  refine ⟨p1.1, by omega, Int.emod_nonneg _ (by decide), Int.emod_lt_of_pos _ (by decide)⟩
theorem WOK.le_rng {now bu le w : Int} {S T : RL} {Q : Nat → List Nat} (h : WOK now bu le S T Q w) : 0 ≤ le ∧ le ≤ 4096 := by
  have := cnt_le (fun i => decide (0 < gC T i 4)) T.length
  have h1 := h.ct
  rw [h.ln]; unfold cntD; omega

theorem w64 {v : Int} (h1 : -9223372036854775808 ≤ v) (h2 : v ≤ 9223372036854775807) : K.norm (.i .i64) v = v := i64w h1 h2
theorem rows_dropS {S : RL} {k : Nat} {p n : Int} {c : Nat} (h : rowsOK k3 S) (hw : Wid S 2049 3) (hk : k < 2049) (hp : 0 ≤ p ∧ p ≤ c) (hn : 0 ≤ n ∧ n ≤ c) (hc : c ≤ 4096) (hcc : 0 ≤ gC S k 2 ∧ gC S k 2 ≤ 4096) : rowsOK k3 (dropS S k p n) := by
  have hl := hw.1
  have s1 : rowsOK k3 (if 0 < p then S else setC S k 0 [n]) ∧ Wid (if 0 < p then S else setC S k 0 [n]) 2049 3 ∧ gC (if 0 < p then S else setC S k 0 [n]) k 2 = gC S k 2 := by
    split
    · exact ⟨h, hw, rfl⟩
    · exact ⟨rows_setC h (by omega) ⟨w64 (by omega) (by omega), trivial⟩ (by simp [k3]), hw.set hk (by simp), by rw [hw.c1 hk (by decide), if_neg (by omega)]⟩
  obtain ⟨S1, e1⟩ : ∃ S1, S1 = if 0 < p then S else setC S k 0 [n] := ⟨_, rfl⟩
  rw [← e1] at s1
  obtain ⟨a1, a2, a3⟩ := s1
  have s2 : rowsOK k3 (if 0 < n then S1 else setC S1 k 1 [p]) ∧ Wid (if 0 < n then S1 else setC S1 k 1 [p]) 2049 3 ∧ gC (if 0 < n then S1 else setC S1 k 1 [p]) k 2 = gC S k 2 := by
    split
    · exact ⟨a1, a2, a3⟩
    · exact ⟨rows_setC a1 (by rw [a2.1]; omega) ⟨w64 (by omega) (by omega), trivial⟩ (by simp [k3]), a2.set hk (by simp), by rw [a2.c1 hk (by decide), if_neg (by omega), a3]⟩
  obtain ⟨S2, e2⟩ : ∃ S2, S2 = if 0 < n then S1 else setC S1 k 1 [p] := ⟨_, rfl⟩
  rw [← e2] at s2
  obtain ⟨b1, b2, b3⟩ := s2
  have e3 : dropS S k p n = setC S2 k 2 [gC S2 k 2 - 1] := by unfold dropS; rw [e2, e1]
  rw [e3, b3]
  exact rows_setC b1 (by rw [b2.1]; omega) ⟨w64 (by omega) (by omega), trivial⟩ (by simp [k3])
theorem rows_dropT {T S : RL} {Q : Nat → List Nat} {cap k i : Nat} {A B : List Nat} (h : rowsOK k5 T) (hk : Lk T S Q cap) (hq : Q k = A ++ i :: B) (hc : cap ≤ 4096) : rowsOK k5 (dropT T i) := by
  obtain ⟨c1, c2⟩ := hk.ch k A i B hq
  have hic : i < cap := hk.qc k i (by rw [hq]; simp)
  have hA : lastP A ≤ cap := lastP_le fun a ha => hk.qc k a (by rw [hq]; simp [ha])
  have hB : headP B ≤ cap := headP_le fun a ha => hk.qc k a (by rw [hq]; simp [ha])
  have hA0 := lastP_nonneg A
  have hB0 := headP_nonneg B
  have hw := hk.tw
  have s1 : rowsOK k5 (if 0 < lastP A then setC T (lastP A - 1).toNat 3 [headP B] else T) ∧ Wid (if 0 < lastP A then setC T (lastP A - 1).toNat 3 [headP B] else T) cap 5 := by
    split
    · exact ⟨rows_setC h (by rw [hw.1]; omega) ⟨w64 (by omega) (by omega), trivial⟩ (by simp [k5]), hw.set (by omega) (by simp)⟩
    · exact ⟨h, hw⟩
  obtain ⟨T1, e1⟩ : ∃ T1, T1 = if 0 < lastP A then setC T (lastP A - 1).toNat 3 [headP B] else T := ⟨_, rfl⟩
  rw [← e1] at s1
  obtain ⟨a1, a2⟩ := s1
  have s2 : rowsOK k5 (if 0 < headP B then setC T1 (headP B - 1).toNat 2 [lastP A] else T1) ∧ Wid (if 0 < headP B then setC T1 (headP B - 1).toNat 2 [lastP A] else T1) cap 5 := by
    split
    · exact ⟨rows_setC a1 (by rw [a2.1]; omega) ⟨w64 (by omega) (by omega), trivial⟩ (by simp [k5]), a2.set (by omega) (by simp)⟩
    · exact ⟨a1, a2⟩
  obtain ⟨T2, e2⟩ : ∃ T2, T2 = if 0 < headP B then setC T1 (headP B - 1).toNat 2 [lastP A] else T1 := ⟨_, rfl⟩
  rw [← e2] at s2
  have e3 : dropT T i = setC T2 i 0 [0, 0, 0, 0, 0] := by unfold dropT; simp only [c1, c2]; rw [e2, e1]
  rw [e3]
  exact rows_setC s2.1 (by rw [s2.2.1]; exact hic) ⟨rfl, rfl, rfl, rfl, rfl, trivial⟩ (by simp [k5])

/-- Rows whose levels, indices and deadlines are the same but for one. -/
theorem WOK.drop {now bu le w : Int} {S T : RL} {Q : Nat → List Nat} {i : Nat} (h : WOK now bu le S T Q w) (hi : i < T.length) (hd : 0 < gC T i 4) :
    ∃ A B, Q (locI now T i).toNat = A ++ i :: B ∧ WOK now bu (le - 1) (dropS S (locI now T i).toNat (gC T i 2) (gC T i 3)) (dropT T i) (uQ Q (locI now T i).toNat (A ++ B)) w ∧
      (dropT T i).length = T.length ∧ (∀ y, y ≠ i → gC (dropT T i) y 0 = gC T y 0 ∧ gC (dropT T i) y 1 = gC T y 1 ∧ gC (dropT T i) y 4 = gC T y 4) ∧ gC (dropT T i) i 4 = 0 := by
  have hm := h.inn i hi hd
  obtain ⟨A, B, hq⟩ := List.append_of_mem hm
  obtain ⟨t1, t2⟩ := dropT_spec h.lk hq
  have hl : (dropT T i).length = T.length := t1.1
  have hy : ∀ y, y ≠ i → gC (dropT T i) y 0 = gC T y 0 ∧ gC (dropT T i) y 1 = gC T y 1 ∧ gC (dropT T i) y 4 = gC T y 4 := fun y hy => by
    rw [t2, t2, t2]; simp [hy]
  have hz : ∀ j, j < 5 → gC (dropT T i) i j = 0 := fun j hj => by rw [t2, if_pos ⟨rfl, hj⟩]
  have hlk := h.lk.drop hq
  have hnd := h.lk.nd (locI now T i).toNat
  rw [hq] at hnd
  obtain ⟨n1, n2, n3⟩ := List.nodup_append.1 hnd
  obtain ⟨n4, n5⟩ := List.nodup_cons.1 n2
  have hiA : i ∉ A := fun hA => n3 i hA i (by simp) rfl
  have hloc : ∀ y, y ≠ i → locI now (dropT T i) y = locI now T y := fun y hy' => by
    obtain ⟨e0, e1, e4⟩ := hy y hy'
    unfold locI; rw [e0, e1, e4]
  have hnot : ∀ k, i ∉ uQ Q (locI now T i).toNat (A ++ B) k := fun k hk => by
    by_cases hkk : k = (locI now T i).toNat
    · rw [hkk, uQ_same] at hk
      rcases List.mem_append.1 hk with h1 | h1
      · exact hiA h1
      · exact n4 h1
    · rw [uQ_ne Q _ hkk] at hk
      exact hkk (h.lk.dj _ _ i hk hm)
  refine ⟨A, B, hq, ⟨h.tm, h.bg, by rw [hl]; exact h.ct, ?_, ?_, by rw [hl]; exact hlk, fun y hyl hyd => ?_, fun k y hk => ?_, fun y hyl => ?_, fun y hyl hyd => ?_, ?_, ?_⟩, hl, hy, hz 4 (by decide)⟩
  · -- rows of lists
    have hk : (locI now T i).toNat < 2049 := h.lk.q_lt hm
    exact rows_dropS h.rS h.lk.sw hk (by rw [(h.lk.ch _ _ _ _ hq).1]; exact ⟨lastP_nonneg _, lastP_le fun a ha => h.lk.qc _ a (by rw [hq]; simp [ha])⟩)
      (by rw [(h.lk.ch _ _ _ _ hq).2]; exact ⟨headP_nonneg _, headP_le fun a ha => h.lk.qc _ a (by rw [hq]; simp [ha])⟩) h.ct.2.1
      (by
        rw [(h.lk.hd _ hk).2.2]
        have := nodup_len (h.lk.nd (locI now T i).toNat) fun a ha => h.lk.qc _ a ha
        have := h.ct
        omega)
  · exact rows_dropT h.rT h.lk hq h.ct.2.1
  · rw [hl] at hyl
    by_cases he : y = i
    · subst he; rw [hz 4 (by decide)] at hyd; omega
    · rw [hloc y he]
      rw [(hy y he).2.2] at hyd
      have h1 := h.inn y hyl hyd
      by_cases hk : (locI now T y).toNat = (locI now T i).toNat
      · rw [hk, uQ_same]
        rw [hk, hq] at h1
        simp only [List.mem_append, List.mem_cons] at h1 ⊢
        rcases h1 with h1 | h1 | h1
        · exact Or.inl h1
        · exact absurd h1 he
        · exact Or.inr h1
      · rw [uQ_ne Q _ hk]; exact h1
  · have he : y ≠ i := fun e => hnot k (e ▸ hk)
    rw [hloc y he, (hy y he).2.2]
    by_cases hkk : k = (locI now T i).toNat
    · subst hkk
      rw [uQ_same] at hk
      exact h.out _ y (by rw [hq]; rcases List.mem_append.1 hk with h1 | h1 <;> simp [h1])
    · rw [uQ_ne Q _ hkk] at hk
      exact h.out _ y hk
  · rw [hl] at hyl
    by_cases he : y = i
    · subst he
      rw [hz 4 (by decide)]
      have := h.tm; omega
    · rw [(hy y he).2.2]; exact h.dr y hyl
  · rw [hl] at hyl
    by_cases he : y = i
    · subst he
      rw [hz 4 (by decide)] at hyd
      have := h.tm; omega
    · obtain ⟨e0, e1, e4⟩ := hy y he
      rw [e4] at hyd
      rw [e0, e1, e4]; exact h.pl y hyl hyd
  · refine Int.le_trans ?_ h.wt
    unfold cntW
    rw [hl]
    refine Int.ofNat_le.2 (cnt_mono fun y hyl hw => ?_)
    by_cases he : y = i
    · subst he
      unfold waits at hw
      rw [hz 4 (by decide)] at hw
      simp only [Bool.and_eq_true, decide_eq_true_eq] at hw
      have := h.tm; omega
    · obtain ⟨e0, e1, e4⟩ := hy y he
      unfold waits at hw ⊢
      rw [e0, e4] at hw
      exact hw
  · rw [h.ln]
    unfold cntD
    rw [hl]
    have := cnt_upd (p := fun i => decide (0 < gC T i 4)) (q := fun y => decide (0 < gC (dropT T i) y 4)) hi fun y _ he => by rw [(hy y he).2.2]
    rw [this]
    simp only [hd, hz 4 (by decide)]
    simp

theorem rows_putT {T : RL} {cap i : Nat} {lv ix d la : Int} (h : rowsOK k5 T) (hw : Wid T cap 5) (hi : i < cap) (hc : cap ≤ 4096) (h1 : 0 ≤ lv ∧ lv ≤ 3) (h2 : 0 ≤ ix ∧ ix < 512) (h3 : 0 ≤ d ∧ d ≤ 1101659111424) (h4 : 0 ≤ la ∧ la ≤ cap) : rowsOK k5 (putT T i lv ix d la) := by
  have w1 := hw.set (vs := [lv, ix]) (j := 0) hi (by simp)
  have w2 := w1.set (vs := [d]) (j := 4) hi (by simp)
  have w3 := w2.set (vs := [la]) (j := 2) hi (by simp)
  have w4 := w3.set (vs := [0]) (j := 3) hi (by simp)
  have r1 := rows_setC (j := 0) (vs := [lv, ix]) h (by rw [hw.1]; exact hi) ⟨w64 (by omega) (by omega), w64 (by omega) (by omega), trivial⟩ (by simp [k5])
  have r2 := rows_setC (j := 4) (vs := [d]) r1 (by rw [w1.1]; exact hi) ⟨w64 (by omega) (by omega), trivial⟩ (by simp [k5])
  have r3 := rows_setC (j := 2) (vs := [la]) r2 (by rw [w2.1]; exact hi) ⟨w64 (by omega) (by omega), trivial⟩ (by simp [k5])
  have r4 := rows_setC (j := 3) (vs := [0]) r3 (by rw [w3.1]; exact hi) ⟨rfl, trivial⟩ (by simp [k5])
  unfold putT
  simp only
  split
  · exact rows_setC r4 (by rw [w4.1]; omega) ⟨w64 (by omega) (by omega), trivial⟩ (by simp [k5])
  · exact r4
theorem rows_putS {S : RL} {k i : Nat} (h : rowsOK k3 S) (hw : Wid S 2049 3) (hk : k < 2049) (hi : i < 4096) (hcc : 0 ≤ gC S k 2 ∧ gC S k 2 ≤ 4096) : rowsOK k3 (putS S k i) := by
  obtain ⟨S1, e1⟩ : ∃ S1, S1 = if 0 < gC S k 1 then S else setC S k 0 [(i : Int) + 1] := ⟨_, rfl⟩
  have s1 : rowsOK k3 S1 ∧ Wid S1 2049 3 ∧ gC S1 k 2 = gC S k 2 := by
    rw [e1]
    split
    · exact ⟨h, hw, rfl⟩
    · exact ⟨rows_setC h (by rw [hw.1]; exact hk) ⟨w64 (by omega) (by omega), trivial⟩ (by simp [k3]), hw.set hk (by simp), by rw [hw.c1 hk (by decide), if_neg (by omega)]⟩
  obtain ⟨a1, a2, a3⟩ := s1
  have b1 := rows_setC (j := 1) (vs := [(i : Int) + 1]) a1 (by rw [a2.1]; exact hk) ⟨w64 (by omega) (by omega), trivial⟩ (by simp [k3])
  have b2 := a2.set (j := 1) (vs := [(i : Int) + 1]) hk (by simp)
  have b3 : gC (setC S1 k 1 [(i : Int) + 1]) k 2 = gC S k 2 := by rw [a2.c1 hk (by decide), if_neg (by omega), a3]
  have e3 : putS S k i = setC (setC S1 k 1 [(i : Int) + 1]) k 2 [gC (setC S1 k 1 [(i : Int) + 1]) k 2 + 1] := by unfold putS; rw [e1]
  rw [e3, b3]
  exact rows_setC b1 (by rw [b2.1]; exact hk) ⟨w64 (by omega) (by omega), trivial⟩ (by simp [k3])

theorem lvF_spec (now d : Int) : (1 ≤ lvF now d → blk (lvF now d) now + 1 < blk (lvF now d) d) ∧ (lvF now d < 3 → blk (lvF now d + 1) d ≤ blk (lvF now d + 1) now + 1) := by
  unfold lvF
  by_cases h1 : blk 1 d ≤ blk 1 now + 1
  · rw [if_pos h1]; exact ⟨fun h => by omega, fun _ => h1⟩
  · rw [if_neg h1]
    by_cases h2 : blk 2 d ≤ blk 2 now + 1
    · rw [if_pos h2]; exact ⟨fun _ => by omega, fun _ => h2⟩
    · rw [if_neg h2]
      by_cases h3 : blk 3 d ≤ blk 3 now + 1
      · rw [if_pos h3]; exact ⟨fun _ => by omega, fun _ => h3⟩
      · rw [if_neg h3]; exact ⟨fun _ => by omega, fun h => by omega⟩

theorem WOK.put {now bu le w d : Int} {S T : RL} {Q : Nat → List Nat} {i : Nat} (h : WOK now bu le S T Q w) (hi : i < T.length) (hz : gC T i 4 = 0) (hd : now < d ∧ d ≤ now + 2147483648) :
    WOK now bu (le + 1) (putS S (kW now d).toNat i) (putT T i (lvF now d) (blk (lvF now d) d % 512) d (gC S (kW now d).toNat 1)) (uQ Q (kW now d).toNat (Q (kW now d).toNat ++ [i])) w ∧
      (putT T i (lvF now d) (blk (lvF now d) d % 512) d (gC S (kW now d).toNat 1)).length = T.length ∧
      (∀ y, y ≠ i → gC (putT T i (lvF now d) (blk (lvF now d) d % 512) d (gC S (kW now d).toNat 1)) y 0 = gC T y 0 ∧ gC (putT T i (lvF now d) (blk (lvF now d) d % 512) d (gC S (kW now d).toNat 1)) y 1 = gC T y 1 ∧ gC (putT T i (lvF now d) (blk (lvF now d) d % 512) d (gC S (kW now d).toNat 1)) y 4 = gC T y 4) ∧
      gC (putT T i (lvF now d) (blk (lvF now d) d % 512) d (gC S (kW now d).toNat 1)) i 0 = lvF now d ∧ gC (putT T i (lvF now d) (blk (lvF now d) d % 512) d (gC S (kW now d).toNat 1)) i 1 = blk (lvF now d) d % 512 ∧
      gC (putT T i (lvF now d) (blk (lvF now d) d % 512) d (gC S (kW now d).toNat 1)) i 4 = d := by
  have htm := h.tm
  have hct := h.ct
  have hn : ∀ m, i ∉ Q m := fun m hm => by have := (h.out m i hm).1; omega
  have hkr := kW_rng now d
  have hlv := lvF_rng now d
  obtain ⟨k, ek⟩ : ∃ k, k = (kW now d).toNat := ⟨_, rfl⟩
  have hk : k < 2049 := by omega
  have hb := blk_rng (lvF now d) (t := d) (by omega)
  obtain ⟨l1, l2⟩ := lvF_spec now d
  obtain ⟨lv, elv⟩ : ∃ lv, lv = lvF now d := ⟨_, rfl⟩
  obtain ⟨ix, eix⟩ : ∃ ix, ix = blk (lvF now d) d % 512 := ⟨_, rfl⟩
  have hixr : 0 ≤ ix ∧ ix < 512 := by omega
  have hkw : kW now d = lv * 512 + ix := by unfold kW; rw [if_neg (by omega), elv, eix]
  rw [← ek, ← eix, ← elv]
  rw [← elv] at hlv l1 l2 eix
  obtain ⟨d0, d1, d2⟩ := h.lk.hd k hk
  have hla : gC S k 1 = 0 ∨ ∃ a : Nat, a < T.length ∧ a ≠ i ∧ gC S k 1 = (a : Int) + 1 := by
    rw [d1]
    rcases snoc_cases (Q k) with e | ⟨m, a, e⟩
    · exact Or.inl (by rw [e]; rfl)
    · have ha : a ∈ Q k := by rw [e]; simp
      exact Or.inr ⟨a, h.lk.qc k a ha, fun x => hn k (x ▸ ha), by rw [e, lastP_snoc]⟩
  have hlar : 0 ≤ gC S k 1 ∧ gC S k 1 ≤ (T.length : Int) := by rw [d1]; exact ⟨lastP_nonneg _, lastP_le fun a ha => h.lk.qc _ a ha⟩
  obtain ⟨t1, t2⟩ := putT_spec (lv := lv) (ix := ix) (d := d) h.lk.tw hi hla
  have hlk := h.lk.put (lv := lv) (ix := ix) (d := d) hk hi hn
  obtain ⟨T', eT⟩ : ∃ T', T' = putT T i lv ix d (gC S k 1) := ⟨_, rfl⟩
  have hrT := rows_putT h.rT h.lk.tw hi hct.2.1 hlv hixr (by omega) hlar (lv := lv) (ix := ix) (d := d)
  rw [← eT] at t1 t2 hlk hrT ⊢
  have hl : T'.length = T.length := t1.1
  have hy : ∀ y, y ≠ i → gC T' y 0 = gC T y 0 ∧ gC T' y 1 = gC T y 1 ∧ gC T' y 4 = gC T y 4 := fun y hy => by
    rw [t2, t2, t2]; simp [hy]
  have g0 : gC T' i 0 = lv := by rw [t2, if_pos ⟨rfl, by decide⟩]; rfl
  have g1 : gC T' i 1 = ix := by rw [t2, if_pos ⟨rfl, by decide⟩]; rfl
  have g4 : gC T' i 4 = d := by rw [t2, if_pos ⟨rfl, by decide⟩]; rfl
  have hloc : ∀ y, y ≠ i → locI now T' y = locI now T y := fun y hy' => by
    obtain ⟨e0, e1, e4⟩ := hy y hy'
    unfold locI; rw [e0, e1, e4]
  have hlocI : (locI now T' i).toNat = k := by
    unfold locI; rw [g0, g1, g4, if_neg (by omega), ek, hkw]
  refine ⟨⟨htm, h.bg, by rw [hl]; exact hct, rows_putS h.rS h.lk.sw hk (by omega) (by
      rw [d2]
      have := nodup_len (h.lk.nd k) fun a ha => h.lk.qc _ a ha
      omega), hrT, by rw [hl]; exact hlk, fun y hyl hyd => ?_, fun m y hm => ?_, fun y hyl => ?_, fun y hyl hyd => ?_, ?_, ?_⟩, hl, hy, g0, g1, g4⟩
  · rw [hl] at hyl
    by_cases he : y = i
    · subst he; rw [hlocI, uQ_same]; simp
    · rw [hloc y he]
      rw [(hy y he).2.2] at hyd
      have h1 := h.inn y hyl hyd
      by_cases hk' : (locI now T y).toNat = k
      · rw [hk', uQ_same]; rw [hk'] at h1; simp [h1]
      · rw [uQ_ne Q _ hk']; exact h1
  · by_cases hmk : m = k
    · subst hmk
      rw [uQ_same] at hm
      rcases List.mem_append.1 hm with h1 | h1
      · have he : y ≠ i := fun e => hn m (e ▸ h1)
        rw [hloc y he, (hy y he).2.2]; exact h.out m y h1
      · have : y = i := by simpa using h1
        subst this
        exact ⟨by rw [g4]; omega, hlocI⟩
    · rw [uQ_ne Q _ hmk] at hm
      have he : y ≠ i := fun e => hn m (e ▸ hm)
      rw [hloc y he, (hy y he).2.2]; exact h.out m y hm
  · rw [hl] at hyl
    by_cases he : y = i
    · subst he; rw [g4]; omega
    · rw [(hy y he).2.2]; exact h.dr y hyl
  · rw [hl] at hyl
    by_cases he : y = i
    · subst he
      rw [g0, g1, g4]
      exact ⟨hlv, eix, fun h1 => by have := l1 h1; omega, l2⟩
    · obtain ⟨e0, e1, e4⟩ := hy y he
      rw [e4] at hyd
      rw [e0, e1, e4]; exact h.pl y hyl hyd
  · refine Int.le_trans ?_ h.wt
    unfold cntW
    rw [hl]
    refine Int.ofNat_le.2 (cnt_mono fun y hyl hw => ?_)
    by_cases he : y = i
    · subst he
      unfold waits at hw
      rw [g0, g4] at hw
      simp only [Bool.and_eq_true, decide_eq_true_eq] at hw
      have := l1 hw.1.2
      omega
    · obtain ⟨e0, e1, e4⟩ := hy y he
      unfold waits at hw ⊢
      rw [e0, e4] at hw
      exact hw
  · rw [h.ln]
    unfold cntD
    rw [hl]
    have := cnt_upd (p := fun i => decide (0 < gC T i 4)) (q := fun y => decide (0 < gC T' y 4)) hi fun y _ he => by rw [(hy y he).2.2]
    rw [this]
    have hdp : 0 < d := by omega
    simp only [hz, g4, hdp]
    simp

end
end Go.Proofs.Ytfhheeoejncfgaa.Ew
