/- Layer 18: a wheel seen from outside: its deadlines, its backlog; what Arm, Cancel, Tick and Take do to these. -/
import Derived.Test.YtfhheeoejncfgaaHm
import Derived.Test.YtfhheeoejncfgaaHk
import Derived.Test.YtfhheeoejncfgaaWr
set_option linter.unusedVariables false
set_option linter.unusedSimpArgs false
namespace Go.Proofs.Ytfhheeoejncfgaa.Ew
open Go Go.RowKit
noncomputable section

/-- A wheel at rest: its capacity, its deadlines, its backlog. -/
structure WV (S now bu le mo T c : Int) (d : Nat → Int) (B : List Nat) : Prop where
  ok : ∃ Q, WOK now bu le (dc S) (dc T) Q (bu * (255 - now % 256)) ∧ Q 2048 = B
  mb : 0 ≤ mo ∧ mo ≤ 1125899906842624
  cp : ((dc T).length : Int) = c
  dl : ∀ i : Nat, (i : Int) < c → gC (dc T) i 4 = d i
  sr : B.Pairwise fun a b => d a ≤ d b
def upD (d : Nat → Int) (i : Nat) (v : Int) : Nat → Int := fun j => if j = i then v else d j
theorem upD_same (d : Nat → Int) (i : Nat) (v : Int) : upD d i v i = v := if_pos rfl
theorem upD_ne (d : Nat → Int) {i j : Nat} (v : Int) (h : j ≠ i) : upD d i v j = d j := if_neg h
def wK6 : List K := [.x, .i .i64, .i .i64, .i .i64, .i .i64, .x]

section
variable {S now bu le mo T c : Int} {d : Nat → Int} {B : List Nat}
theorem WV.wx (h : WV S now bu le mo T c d B) : WX [S, now, bu, le, mo, T] := by
  obtain ⟨Q, ok, _⟩ := h.ok
  have := h.mb
  exact ⟨⟨Q, ok⟩, this.1, by show mo ≤ 1152921504606846976; omega⟩
theorem WV.wx1 (h : WV S now bu le mo T c d B) (i : Int) : WX [S, now, bu, le, mo, T, i] := h.wx
theorem WV.wx2 (h : WV S now bu le mo T c d B) (i j : Int) : WX [S, now, bu, le, mo, T, i, j] := h.wx
theorem WV.tm (h : WV S now bu le mo T c d B) : 0 ≤ now ∧ now ≤ 1099511627776 := by obtain ⟨Q, ok, _⟩ := h.ok; exact ok.tm
theorem WV.bg (h : WV S now bu le mo T c d B) : 1 ≤ bu ∧ bu ≤ 4096 := by obtain ⟨Q, ok, _⟩ := h.ok; exact ok.bg
theorem WV.ct (h : WV S now bu le mo T c d B) : 0 < c ∧ c ≤ 4096 := by obtain ⟨Q, ok, _⟩ := h.ok; have := ok.ct; have := h.cp; omega
theorem WV.ler (h : WV S now bu le mo T c d B) : 0 ≤ le ∧ le ≤ 4096 := by obtain ⟨Q, ok, _⟩ := h.ok; exact ok.le_rng
theorem WV.lenOK (h : WV S now bu le mo T c d B) (r : List Int) : lenOK (S :: now :: bu :: le :: mo :: T :: r) := by
  have := h.ct; have := h.cp
  exact ⟨by show 0 < ((dc T).length : Int); omega, by show ((dc T).length : Int) ≤ 4096; omega⟩
theorem WV.preR (h : WV S now bu le mo T c d B) (i : Int) : preR [S, now, bu, le, mo, T, i] := by
  obtain ⟨Q, ok, _⟩ := h.ok
  exact ⟨h.lenOK [i], ok.rT⟩
theorem WV.pre16 (h : WV S now bu le mo T c d B) : e16.pre [S, now, bu, le, mo, T] := by
  obtain ⟨Q, ok, _⟩ := h.ok
  exact ⟨h.lenOK [], ok.rS, ok.lk.sw.1⟩
/-- Who is in the backlog. -/
theorem WV.mem (h : WV S now bu le mo T c d B) (i : Nat) : i ∈ B ↔ (i : Int) < c ∧ 0 < d i ∧ d i ≤ now := by
  obtain ⟨Q, ok, rfl⟩ := h.ok
  have hc := h.cp
  constructor
  · intro hi
    have h1 := ok.lk.qc _ i hi
    have hic : (i : Int) < c := by omega
    obtain ⟨o1, o2⟩ := ok.out _ i hi
    have e := h.dl i hic
    refine ⟨hic, by omega, ?_⟩
    rw [← e]
    by_cases hh : gC (dc T) i 4 ≤ now
    · exact hh
    · exfalso
      obtain ⟨p1, p2, _⟩ := ok.pl i h1 (by omega)
      unfold locI at o2
      rw [if_neg hh] at o2
      have : 0 ≤ gC (dc T) i 1 ∧ gC (dc T) i 1 < 512 := by omega
      omega
  · rintro ⟨h1, h2, h3⟩
    have e := h.dl i h1
    have := ok.inn i (by omega) (by omega)
    unfold locI at this
    rw [if_pos (by omega)] at this
    exact this
theorem WV.nd (h : WV S now bu le mo T c d B) : B.Nodup := by
  obtain ⟨Q, ok, rfl⟩ := h.ok
  exact ok.lk.nd 2048
theorem WV.lag (h : WV S now bu le mo T c d B) : gC (dc S) 2048 2 = (B.length : Int) := by
  obtain ⟨Q, ok, rfl⟩ := h.ok
  exact (ok.lk.hd 2048 (by decide)).2.2
theorem WV.dr (h : WV S now bu le mo T c d B) {i : Nat} (hi : (i : Int) < c) : 0 ≤ d i ∧ d i ≤ now + 2147483648 := by
  obtain ⟨Q, ok, rfl⟩ := h.ok
  have := h.cp
  rw [← h.dl i hi]; exact ok.dr i (by omega)
theorem WV.lenB (h : WV S now bu le mo T c d B) : (B.length : Int) ≤ c := by
  have hn := h.nd
  have hs : B ⊆ List.range c.toNat := fun i hi => by
    have := ((h.mem i).1 hi).1
    exact List.mem_range.2 (by omega)
  have h1 := List.Nodup.length_le_of_subset hn hs
  have h2 := h.ct
  rw [List.length_range] at h1
  omega
/-- How many timers there are. -/
def cntP (c : Int) (d : Nat → Int) : Int := (cnt c.toNat (fun i => decide (0 < d i)) : Nat)
theorem WV.len (h : WV S now bu le mo T c d B) : le = cntP c d := by
  obtain ⟨Q, ok, rfl⟩ := h.ok
  have hc := h.cp
  rw [ok.ln]
  unfold cntP cntD
  rw [show (dc T).length = c.toNat by omega]
  congr 1
  exact cnt_congr fun j hj => by rw [h.dl j (by omega)]

theorem erase_mid {A C : List Nat} {i : Nat} (h : (A ++ i :: C).Nodup) : (A ++ i :: C).erase i = A ++ C := by
  have hi : i ∉ A := fun hm => by
    rw [List.nodup_append] at h
    exact h.2.2 i hm i (by simp) rfl
  rw [List.erase_append_right _ hi, List.erase_cons_head]
/-- No level is negative. -/
def NN (T : RL) : Prop := ∀ y, 0 ≤ gC T y 0
theorem mvN_nn0 {now bu le : Int} : ∀ (n : Nat) (p : RL × RL) (Q : Nat → List Nat) (w : Int), WOK now bu le p.1 p.2 Q w → NN p.2 → NN (mvN now n p).1.2
  | 0, p, Q, w, _, hn => hn
  | n + 1, p, Q, w, h, hn => by
    by_cases hz : wtF p.1 now = 0
    · have e : mvN now (n + 1) p = (p, 0) := if_pos hz
      rw [e]; exact hn
    · obtain ⟨i, hi1, hi2, hi3⟩ := h.wait_pos hz
      obtain ⟨Q1, m1, m2, m3, m4, m5, m6, m7⟩ := h.move hi1 hi2 hi3
      have e : mvN now (n + 1) p = ((mvN now n (mvW now p)).1, (mvN now n (mvW now p)).2 + 1) := if_neg hz
      rw [e]
      refine mvN_nn0 n (mvW now p) Q1 (w - 1) m1 fun y => ?_
      by_cases hy : y = i
      · subst hy; exact m6
      · have := m4 y hy
        have e2 : gC (mvW now p).2 y 0 = gC p.2 y 0 := this
        rw [e2]; exact hn y
theorem WOK.tick_nn {now bu le : Int} {S T : RL} {Q : Nat → List Nat} (h : WOK now bu le S T Q (bu * (255 - now % 256))) (hn : NN T) : NN (tickW now bu (S, T)).1.2 := by
  have htm := h.tm
  by_cases hM : now = 1099511627776
  · have e1 : tickW now bu (S, T) = ((S, T), 0) := if_pos hM
    rw [e1]; exact hn
  · obtain ⟨k, hk⟩ : ∃ k, k = ((now + 1) % 512).toNat := ⟨_, rfl⟩
    obtain ⟨j1, j2, j3⟩ := h.join (by omega) hk
    have ej : joinW k (S, T) = (if gC S k 2 = 0 then S else joinS S k, if gC S k 2 = 0 then T else joinT T (gC S k 0) (gC S 2048 1)) := by
      unfold joinW
      by_cases hc : gC S k 2 = 0 <;> simp [hc]
    have e1 : tickW now bu (S, T) = mvN (now + 1) bu.toNat (joinW k (S, T)) := by rw [hk]; exact if_neg hM
    rw [e1, ej]
    exact mvN_nn0 bu.toNat _ _ _ j1 fun y => by rw [j3 y 0 (by decide) (by decide)]; exact hn y
theorem NN.sum {T : RL} (h : NN T) : ∀ n, 0 ≤ lvSum T n
  | 0 => Int.le_refl _
  | n + 1 => by have := h.sum n; have := h n; simp only [lvSum]; omega
theorem lvSum_zero {T : RL} (h : ∀ y, gC T y 0 = 0) : ∀ n, lvSum T n = 0
  | 0 => rfl
  | n + 1 => by simp only [lvSum, lvSum_zero h n, h n]; rfl
/-- A timer is taken out of its list. -/
theorem WOK.gone {now bu le w : Int} {S T : RL} {Q : Nat → List Nat} {i : Nat} (h : WOK now bu le S T Q w) (hi : i < T.length) (hd : 0 < gC T i 4) :
    ∃ Q', WOK now bu (le - 1) (dpW now (S, T) i).1 (dpW now (S, T) i).2 Q' w ∧ Q' 2048 = (Q 2048).erase i ∧
      (dpW now (S, T) i).2.length = T.length ∧ (∀ y, y ≠ i → gC (dpW now (S, T) i).2 y 0 = gC T y 0 ∧ gC (dpW now (S, T) i).2 y 4 = gC T y 4) ∧ gC (dpW now (S, T) i).2 i 4 = 0 ∧ (∀ m, i ∉ Q' m) ∧ gC (dpW now (S, T) i).2 i 0 = 0 := by
  obtain ⟨A, C, k0, k1, k2, k3, k4⟩ := h.drop hi hd
  refine ⟨_, k1, ?_, k2, fun y hy => ⟨(k3 y hy).1, (k3 y hy).2.2⟩, k4, fun m hm => ?_, by rw [show (dpW now (S, T) i).2 = dropT T i from rfl, (dropT_spec h.lk k0).2 i 0, if_pos ⟨rfl, by decide⟩]⟩
  · by_cases hk : (locI now T i).toNat = 2048
    · rw [hk, uQ_same]
      rw [hk] at k0
      rw [k0, erase_mid (by rw [← k0]; exact h.lk.nd 2048)]
    · rw [uQ_ne _ _ (fun e => hk e.symm)]
      refine (List.erase_of_not_mem fun hm => hk ?_).symm
      exact (h.out _ i hm).2
  · have : 0 < gC (dropT T i) i 4 := (k1.out m i hm).1
    omega
theorem tkN_lv {now bu : Int} : ∀ (n : Nat) (p : RL × RL) (Q : Nat → List Nat) (le w : Int), WOK now bu le p.1 p.2 Q w → NN p.2 → NN (tkN now n p).1.2 ∧ lvSum (tkN now n p).1.2 p.2.length ≤ lvSum p.2 p.2.length
  | 0, p, Q, le, w, _, hn => ⟨hn, Int.le_refl _⟩
  | n + 1, p, Q, le, w, h, hn => by
    obtain ⟨b0, _, b2⟩ := h.lk.hd 2048 (by decide)
    cases hq : Q 2048 with
    | nil =>
      have e : tkN now (n + 1) p = (p, []) := if_neg (by rw [b2, hq]; decide)
      rw [e]; exact ⟨hn, Int.le_refl _⟩
    | cons i r =>
      have hm : i ∈ Q 2048 := by rw [hq]; simp
      have hi := h.lk.qc _ i hm
      obtain ⟨o1, o2⟩ := h.out _ i hm
      have hb : gC p.1 2048 0 - 1 = (i : Int) := by rw [b0, hq]; show (i : Int) + 1 - 1 = _; omega
      have hz : 0 < gC p.1 2048 2 := by rw [b2, hq]; simp
      have en : ((i : Int)).toNat = i := by omega
      obtain ⟨Q1, k1, _, k3, k4, _, _, k7⟩ := h.gone hi o1
      have e : tkN now (n + 1) p = ((tkN now n (dpW now p i)).1, [(i : Int)] :: (tkN now n (dpW now p i)).2) := by
        show (if 0 < gC p.1 2048 2 then _ else _) = _
        rw [if_pos hz, hb, en]
      have hn1 : NN (dpW now p i).2 := fun y => by
        by_cases hy : y = i
        · have e3 : gC (dpW now p i).2 i 0 = 0 := k7
          rw [hy, e3]; decide
        · have e3 : gC (dpW now p i).2 y 0 = gC p.2 y 0 := (k4 y hy).1
          rw [e3]; exact hn y
      obtain ⟨r1, r2⟩ := tkN_lv n (dpW now p i) Q1 (le - 1) w k1 hn1
      have hs := lvSum_upd (n := p.2.length) (T := p.2) (T' := (dpW now p i).2) hi (fun y hy => (k4 y hy).1)
      have e3 : gC (dpW now p i).2 i 0 = 0 := k7
      have e4 : (dpW now p i).2.length = p.2.length := k3
      rw [e4] at r2
      have := hn i
      rw [e]
      exact ⟨r1, by show lvSum (tkN now n (dpW now p i)).1.2 p.2.length ≤ _; omega⟩
/-- A timer is put. -/
theorem WOK.come {now bu le w dd : Int} {S T : RL} {Q : Nat → List Nat} {i : Nat} (h : WOK now bu le S T Q w) (hi : i < T.length) (hz : gC T i 4 = 0) (hd : now < dd ∧ dd ≤ now + 2147483648) :
    ∃ Q', WOK now bu (le + 1) (ptW now dd (S, T) i).1 (ptW now dd (S, T) i).2 Q' w ∧ Q' 2048 = Q 2048 ∧
      (ptW now dd (S, T) i).2.length = T.length ∧ (∀ y, y ≠ i → gC (ptW now dd (S, T) i).2 y 0 = gC T y 0 ∧ gC (ptW now dd (S, T) i).2 y 4 = gC T y 4) ∧ gC (ptW now dd (S, T) i).2 i 4 = dd ∧ gC (ptW now dd (S, T) i).2 i 0 = lvF now dd := by
  obtain ⟨m1, m2, m3, m4, _, m6⟩ := h.put hi hz hd
  refine ⟨_, m1, ?_, m2, fun y hy => ⟨(m3 y hy).1, (m3 y hy).2.2⟩, m6, m4⟩
  have hk : (kW now dd).toNat ≠ 2048 := by
    obtain ⟨Q', m⟩ : ∃ Q', Q' = uQ Q (kW now dd).toNat (Q (kW now dd).toNat ++ [i]) := ⟨_, rfl⟩
    rw [← m] at m1
    have hin : i ∈ Q' (kW now dd).toNat := by rw [m, uQ_same]; simp
    have ho := (m1.out _ i hin).2
    have hl := m1.loc_lt (i := i) (by rw [m2]; exact hi) (by rw [m6]; exact hd.1)
    omega
  rw [uQ_ne _ _ (fun e => hk e.symm)]
/-- A timer is armed. -/
theorem WOK.arms {now bu le w dd : Int} {S T : RL} {Q : Nat → List Nat} {i : Nat} (h : WOK now bu le S T Q w) (hi : i < T.length) (hd : now < dd ∧ dd ≤ now + 2147483648) :
    ∃ Q', WOK now bu (if 0 < gC T i 4 then le else le + 1) (armW now dd (S, T) i).1 (armW now dd (S, T) i).2 Q' w ∧ Q' 2048 = (Q 2048).erase i ∧
      (armW now dd (S, T) i).2.length = T.length ∧ (∀ y, y ≠ i → gC (armW now dd (S, T) i).2 y 0 = gC T y 0 ∧ gC (armW now dd (S, T) i).2 y 4 = gC T y 4) ∧ gC (armW now dd (S, T) i).2 i 4 = dd ∧ gC (armW now dd (S, T) i).2 i 0 = lvF now dd := by
  unfold armW clW
  by_cases hz : 0 < gC T i 4
  · simp only [if_pos hz]
    obtain ⟨Q1, k1, k2, k3, k4, k5, _⟩ := h.gone hi hz
    obtain ⟨Q2, m1, m2, m3, m4, m5, m6⟩ := k1.come (dd := dd) (i := i) (by rw [k3]; exact hi) k5 hd
    have e : le - 1 + 1 = le := by omega
    rw [e] at m1
    exact ⟨Q2, m1, m2.trans k2, m3.trans k3, fun y hy => ⟨(m4 y hy).1.trans (k4 y hy).1, (m4 y hy).2.trans (k4 y hy).2⟩, m5, m6⟩
  · simp only [if_neg hz]
    have := (h.dr i hi).1
    obtain ⟨Q2, m1, m2, m3, m4, m5, m6⟩ := h.come (i := i) hi (by omega) hd
    refine ⟨Q2, m1, m2.trans ?_, m3, m4, m5, m6⟩
    refine (List.erase_of_not_mem fun hm => ?_).symm
    have := (h.out _ i hm).1
    omega
theorem pw_congr {d d' : Nat → Int} : ∀ {l : List Nat}, (∀ i ∈ l, d' i = d i) → l.Pairwise (fun a b => d a ≤ d b) → l.Pairwise fun a b => d' a ≤ d' b
  | [], _, _ => List.Pairwise.nil
  | a :: l, h, hp => by
    rw [List.pairwise_cons] at hp ⊢
    refine ⟨fun b hb => ?_, pw_congr (fun i hi => h i (List.mem_cons_of_mem _ hi)) hp.2⟩
    rw [h a (List.mem_cons_self ..), h b (List.mem_cons_of_mem _ hb)]
    exact hp.1 b hb
/-- Arm, of a timer and a deadline that there are. -/
theorem WV.arm {S' now' bu' le' mo' T' e i dd : Int} (h : WV S now bu le mo T c d B) (hi : 0 ≤ i ∧ i < c) (hd : now < dd ∧ dd ≤ now + 2147483648)
    (ho : isOut e14.fn [S, now, bu, le, mo, T, i, dd] 0 [.x, .i .i64, .i .i64, .i .i64, .i .i64, .x, .i .i64] [S', now', bu', le', mo', T', e]) :
    WV S' now' bu' le' mo' T' c (upD d i.toNat dd) (B.erase i.toNat) ∧ now' = now ∧ bu' = bu ∧ mo' = mo ∧ e = 0 ∧ le' = (if 0 < d i.toNat then le else le + 1) ∧
      (∀ y, y ≠ i.toNat → gC (dc T') y 0 = gC (dc T) y 0) ∧ gC (dc T') i.toNat 0 = lvF now dd := by
  obtain ⟨o0, o1, o2, o3, o4, o5, o6, _⟩ := ho
  have w : WS S now bu le mo T now bu le mo (dc S, dc T) := by
    obtain ⟨Q, ok, _⟩ := h.ok
    have := h.mb
    exact ⟨rfl, rfl, rfl, rfl, rfl, rfl, ⟨Q, ok⟩, by omega⟩
  have hc := h.cp
  obtain ⟨s, he⟩ := w.arm (i := i) (d := dd) (l' := if 0 < gC (dc T) i.toNat 4 then le else le + 1) (by show 0 ≤ i ∧ i < ((dc T).length : Int); omega) hd rfl o0 o1 o2 o3 o4 o5 o6
  obtain ⟨Q, ok, hB⟩ := h.ok
  obtain ⟨Q', q1, q2, q3, q4, q5, q6⟩ := ok.arms (i := i.toNat) (dd := dd) (by omega) hd
  obtain ⟨rfl, rfl, rfl, rfl, hs, ht, _, _⟩ := s
  have hic : (i.toNat : Int) < c := by omega
  have hdi := h.dl i.toNat hic
  refine ⟨⟨⟨Q', ?_, ?_⟩, h.mb, ?_, fun y hy => ?_, ?_⟩, rfl, rfl, rfl, he, by rw [hdi], fun y hy => ?_, ?_⟩
  · rw [hs, ht]; exact q1
  · rw [q2, hB]
  · rw [ht, ← hc]; exact congrArg Int.ofNat q3
  · rw [ht]
    by_cases e : y = i.toNat
    · subst e; rw [upD_same]; exact q5
    · rw [upD_ne _ _ e, ← h.dl y hy]; exact (q4 y e).2
  · refine pw_congr (d := d) (fun y hy => ?_) (h.sr.sublist (List.erase_sublist ..))
    have : y ≠ i.toNat := fun e => by
      subst e
      exact (List.Nodup.not_mem_erase h.nd) hy
    exact upD_ne _ _ this
  · rw [ht]; exact (q4 y hy).1
  · rw [ht]; exact q6
/-- Cancel, of a timer that there is. -/
theorem WV.can {S' now' bu' le' mo' T' e i : Int} (h : WV S now bu le mo T c d B) (hi : 0 ≤ i ∧ i < c)
    (ho : isOut e24.fn [S, now, bu, le, mo, T, i] 0 [.x, .i .i64, .i .i64, .i .i64, .i .i64, .x, .i .i64] [S', now', bu', le', mo', T', e]) :
    WV S' now' bu' le' mo' T' c (upD d i.toNat 0) (B.erase i.toNat) ∧ now' = now ∧ bu' = bu ∧ mo' = mo ∧ e = (if d i.toNat = 0 then 6 else 0) ∧ le' = (if d i.toNat = 0 then le else le - 1) ∧
      (∀ y, y ≠ i.toNat → gC (dc T') y 0 = gC (dc T) y 0) ∧ gC (dc T') i.toNat 0 = (if d i.toNat = 0 then gC (dc T) i.toNat 0 else 0) := by
  obtain ⟨o0, o1, o2, o3, o4, o5, o6, _⟩ := ho
  obtain ⟨Q, ok, hB⟩ := h.ok
  have hc := h.cp
  have htm := ok.tm
  have hbg := ok.bg
  have hler := ok.le_rng
  have hmb := h.mb
  have hic : (i.toNat : Int) < c := by omega
  have hdi := h.dl i.toNat hic
  have hdr := h.dr hic
  have hr : riW [S, now, bu, le, mo, T, i] := by show 0 ≤ i ∧ i < ((dc T).length : Int); omega
  have e1 : now' = now := o1.trans (i64w (by show -9223372036854775808 ≤ now; omega) (by show now ≤ _; omega))
  have e2 : bu' = bu := o2.trans (i64w (by show -9223372036854775808 ≤ bu; omega) (by show bu ≤ _; omega))
  have e4 : mo' = mo := o4.trans (i64w (by show -9223372036854775808 ≤ mo; omega) (by show mo ≤ _; omega))
  by_cases hz : d i.toNat = 0
  · have hz' : ¬ (riW [S, now, bu, le, mo, T, i] ∧ gC (dc T) i.toNat 4 ≠ 0) := fun hh => hh.2 (by rw [hdi]; exact hz)
    have f0 : S' = S := o0.trans (if_neg hz')
    have f5 : T' = T := o5.trans (if_neg hz')
    have f3 : le' = le := o3.trans ((congrArg _ (if_neg hz')).trans (i64w (by show -9223372036854775808 ≤ le; omega) (by show le ≤ _; omega)))
    have f6 : e = 6 := o6.trans (by
      show IntKind.i64.wrap (if riW [S, now, bu, le, mo, T, i] then (if gC (dc T) i.toNat 4 = 0 then 6 else 0) else 2) = 6
      rw [if_pos hr, if_pos (by rw [hdi]; exact hz)]; rfl)
    subst f0 f5 f3
    have hnB : i.toNat ∉ B := fun hm => by have := ((h.mem _).1 hm).2.1; omega
    have hu : upD d i.toNat 0 = d := by
      funext y
      by_cases e : y = i.toNat
      · subst e; rw [upD_same, hz]
      · exact upD_ne _ _ e
    rw [hu, List.erase_of_not_mem hnB, if_pos hz, if_pos hz, if_pos hz]
    exact ⟨by rw [e1, e2, e4]; exact h, e1, e2, e4, f6, rfl, fun _ _ => rfl, rfl⟩
  · have hz' : riW [S, now, bu, le, mo, T, i] ∧ gC (dc T) i.toNat 4 ≠ 0 := ⟨hr, by rw [hdi]; exact hz⟩
    obtain ⟨Q', q1, q2, q3, q4, q5, _, q7⟩ := ok.gone (i := i.toNat) (by omega) (by rw [hdi]; omega)
    have hler2 := q1.le_rng
    have f0 : dc S' = (dpW now (dc S, dc T) i.toNat).1 := by rw [o0.trans (if_pos hz')]; exact dc_cd _
    have f5 : dc T' = (dpW now (dc S, dc T) i.toNat).2 := by rw [o5.trans (if_pos hz')]; exact dc_cd _
    have f3 : le' = le - 1 := o3.trans ((congrArg _ (if_pos hz')).trans (i64w (by show -9223372036854775808 ≤ le - 1; omega) (by show le - 1 ≤ _; omega)))
    have f6 : e = 0 := o6.trans (by
      show IntKind.i64.wrap (if riW [S, now, bu, le, mo, T, i] then (if gC (dc T) i.toNat 4 = 0 then 6 else 0) else 2) = 0
      rw [if_pos hr, if_neg (by rw [hdi]; exact hz)]; rfl)
    rw [if_neg hz, if_neg hz, if_neg hz]
    refine ⟨?_, e1, e2, e4, f6, f3, fun y hy => ?_, by rw [f5]; exact q7⟩
    rw [e1, e2, e4]
    refine ⟨⟨Q', ?_, ?_⟩, h.mb, ?_, fun y hy => ?_, ?_⟩
    · rw [f0, f5, f3]; exact q1
    · rw [q2, hB]
    · rw [f5, ← hc]; exact congrArg Int.ofNat q3
    · rw [f5]
      by_cases e : y = i.toNat
      · subst e; rw [upD_same]; exact q5
      · rw [upD_ne _ _ e, ← h.dl y hy]; exact (q4 y e).2
    · refine pw_congr (d := d) (fun y hy => ?_) (h.sr.sublist (List.erase_sublist ..))
      have : y ≠ i.toNat := fun e => by
        subst e
        exact (List.Nodup.not_mem_erase h.nd) hy
      exact upD_ne _ _ this
    · rw [f5]; exact (q4 y hy).1
/-- Tick. -/
theorem WV.tick {S' now' bu' le' mo' T' g : Int} (h : WV S now bu le mo T c d B) (hm : mo + bu ≤ 1125899906842624)
    (ho : isOut e15.fn [S, now, bu, le, mo, T] 0 [.x, .i .i64, .i .i64, .i .i64, .i .i64, .x, .i .i64] [S', now', bu', le', mo', T', g]) :
    ∃ D : List Nat, WV S' now' bu' le' mo' T' c d (B ++ D) ∧ (∀ i, i ∈ D ↔ now < 1099511627776 ∧ (i : Int) < c ∧ d i = now + 1) ∧ now' = nowT now ∧ bu' = bu ∧ le' = le ∧ mo' = mo + g ∧ 0 ≤ g ∧ g ≤ bu ∧
      lvSum (dc T') c.toNat + g ≤ lvSum (dc T) c.toNat ∧ (NN (dc T) → NN (dc T')) := by
  obtain ⟨o0, o1, o2, o3, o4, o5, o6, _⟩ := ho
  have w : WS S now bu le mo T now bu le mo (dc S, dc T) := by
    obtain ⟨Q, ok, _⟩ := h.ok
    have := h.mb
    exact ⟨rfl, rfl, rfl, rfl, rfl, rfl, ⟨Q, ok⟩, by omega⟩
  have hc := h.cp
  have hmb := h.mb
  obtain ⟨s, hv⟩ := w.tick (by omega) o0 o1 o2 o3 o4 o5 o6
  obtain ⟨Q, ok, hB⟩ := h.ok
  obtain ⟨Q', t1, t2, t3, t4, t5, t6, t7⟩ := ok.tick
  obtain ⟨rfl, rfl, rfl, e4, hs, ht, _, _⟩ := s
  have hdue := ok.due
  have hD : ∀ i, i ∈ (if now = 1099511627776 then [] else Q ((now + 1) % 512).toNat) ↔ now < 1099511627776 ∧ (i : Int) < c ∧ d i = now + 1 := fun i => by
    have htm := ok.tm
    by_cases hM : now = 1099511627776
    · rw [if_pos hM]
      constructor
      · intro hh; cases hh
      · rintro ⟨hh, _⟩; omega
    · rw [if_neg hM, hdue i]
      constructor
      · rintro ⟨a, b⟩
        have hic : (i : Int) < c := by omega
        exact ⟨by omega, hic, by rw [← h.dl i hic]; exact b⟩
      · rintro ⟨_, a, b⟩
        exact ⟨by omega, by rw [h.dl i a]; exact b⟩
  refine ⟨if now = 1099511627776 then [] else Q ((now + 1) % 512).toNat, ⟨⟨Q', ?_, ?_⟩, ?_, ?_, fun y hy => ?_, ?_⟩, hD, rfl, rfl, rfl, ?_, ?_, ?_, ?_, fun hn => by rw [ht]; exact ok.tick_nn hn⟩
  · rw [hs, ht]; exact t1
  · rw [t7, hB]
  · rw [e4]; omega
  · rw [ht, ← hc]; exact congrArg Int.ofNat t4
  · rw [ht, t5 y]; exact h.dl y hy
  · rw [List.pairwise_append]
    refine ⟨h.sr, ?_, fun a ha b hb => ?_⟩
    · refine List.pairwise_of_forall_mem_list fun a ha b hb => ?_
      rw [((hD a).1 ha).2.2, ((hD b).1 hb).2.2]; exact Int.le_refl _
    · rw [((hD b).1 hb).2.2]
      have := ((h.mem a).1 ha).2.2
      omega
  · rw [e4, hv]
  · rw [hv]; exact t2
  · rw [hv]; exact t3
  · rw [ht, hv, show c.toNat = (dc T).length by omega]; exact t6
/-- Take. -/
theorem WV.take {S' now' bu' le' mo' T' v e k : Int} (h : WV S now bu le mo T c d B) (hk : 0 ≤ k)
    (ho : isOut e17.fn [S, now, bu, le, mo, T, k] 0 [.x, .i .i64, .i .i64, .i .i64, .i .i64, .x, .x, .i .i64] [S', now', bu', le', mo', T', v, e]) :
    WV S' now' bu' le' mo' T' c (fun i => if i ∈ B.take k.toNat then 0 else d i) (B.drop k.toNat) ∧ now' = now ∧ bu' = bu ∧ mo' = mo ∧ e = 0 ∧ dc v = (B.take k.toNat).map (fun i : Nat => [(i : Int)]) ∧ le' = le - ((B.take k.toNat).length : Int) ∧ (NN (dc T) → NN (dc T') ∧ lvSum (dc T') c.toNat ≤ lvSum (dc T) c.toNat) := by
  obtain ⟨o0, o1, o2, o3, o4, o5, o6, o7, _⟩ := ho
  have w : WS S now bu le mo T now bu le mo (dc S, dc T) := by
    obtain ⟨Q, ok, _⟩ := h.ok
    have := h.mb
    exact ⟨rfl, rfl, rfl, rfl, rfl, rfl, ⟨Q, ok⟩, by omega⟩
  have hc := h.cp
  obtain ⟨s, hv, he⟩ := w.take hk o0 o1 o2 o3 o4 o5 o6 o7
  obtain ⟨Q, ok, hB⟩ := h.ok
  obtain ⟨Q', t1, t2, t3, t4, t5, t6⟩ := tkN_ok k.toNat (dc S, dc T) Q le _ ok
  rw [hB] at t2 t3 t5 t6
  obtain ⟨e1, e2, e3, e4, hs, ht, _, _⟩ := s
  have hl : (tkN now k.toNat (dc S, dc T)).2.length = (B.take k.toNat).length := by rw [t2, List.length_map]
  refine ⟨?_, e1, e2, e4, he, hv.trans t2, by rw [e3, hl], fun hn => by
    rw [ht, show c.toNat = (dc T).length by omega]
    exact tkN_lv k.toNat (dc S, dc T) Q le _ ok hn⟩
  rw [e1, e2, e4]
  refine ⟨⟨Q', ?_, t3⟩, h.mb, ?_, fun y hy => ?_, ?_⟩
  · rw [hs, ht, e3]; exact t1
  · rw [ht, ← hc]; exact congrArg Int.ofNat t4
  · rw [ht]
    by_cases hm : y ∈ B.take k.toNat
    · rw [if_pos hm]; exact t6 y hm
    · rw [if_neg hm, ← h.dl y hy]; exact (t5 y hm).2.2
  · refine pw_congr (d := d) (fun y hy => ?_) (h.sr.sublist (List.drop_sublist ..))
    refine if_neg fun hm => ?_
    have hn := h.nd
    rw [← List.take_append_drop k.toNat B, List.nodup_append] at hn
    exact hn.2.2 y hm y hy rfl
/-- A new wheel. -/
theorem WV.new {S' now' bu' le' mo' T' n c b : Int} (h : newW n c b)
    (ho : isOut e13.fn [n, c, b] 0 [.x, .i .i64, .i .i64, .i .i64, .i .i64, .x] [S', now', bu', le', mo', T']) :
    WV S' now' bu' le' mo' T' c (fun _ => 0) [] ∧ now' = n ∧ bu' = b ∧ le' = 0 ∧ mo' = 0 ∧ dc T' = Tn c := by
  obtain ⟨o0, o1, o2, o3, o4, o5, _⟩ := ho
  have w := WS.new h o0 o1 o2 o3 o4 o5
  have hh := h
  obtain ⟨_, h2, h3, _⟩ := hh
  obtain ⟨rfl, rfl, rfl, rfl, hs, ht, _, _⟩ := w
  refine ⟨⟨⟨fun _ => [], ?_, rfl⟩, by decide, ?_, fun y hy => ?_, List.Pairwise.nil⟩, rfl, rfl, rfl, rfl, ht⟩
  · rw [hs, ht]; exact WOK.new h (Int.mul_nonneg (by omega) (by omega))
  · rw [ht]
    show ((List.replicate c.toNat [0, 0, 0, 0, 0] : RL).length : Int) = c
    rw [List.length_replicate]; omega
  · rw [ht]; exact gC_Tn c y 4
end
theorem WV.fresh {S now bu le mo T cp bg b s n c : Int} (hs : 0 ≤ s) (ho : isOut e23.fn [b, s, n, c] 0 [.x, .i .i64, .i .i64, .i .i64, .i .i64, .x, .i .i64, .i .i64] [S, now, bu, le, mo, T, cp, bg]) :
    WV S now bu le mo T cp (fun _ => 0) [] ∧ now = nowF [b, s, n, c] ∧ bu = budF [b, s, n, c] ∧ le = 0 ∧ mo = 0 ∧ cp = capF [b, s, n, c] ∧ bg = budF [b, s, n, c] ∧ dc T = Tn cp ∧ (213 ≤ now ∧ now ≤ 16777216) ∧ cp ≤ 600 ∧ bu ≤ 5 := by
  obtain ⟨o0, o1, o2, o3, o4, o5, o6, o7, _⟩ := ho
  obtain ⟨g1, g2, g3, g4, g5⟩ := nums_ok b s n c hs
  obtain ⟨q1, q2, q3, q4, q5, q6⟩ := WV.new (S' := S) (now' := now) (bu' := bu) (le' := le) (mo' := mo) (T' := T) (n := nowF [b, s, n, c]) (c := capF [b, s, n, c]) (b := budF [b, s, n, c]) g1 ⟨o0, o1, o2, o3, o4, o5, trivial⟩
  have hc := q1.ct
  have hb := q1.bg
  have e6 : cp = capF [b, s, n, c] := o6.trans (i64w (by show _ ≤ capF [b, s, n, c]; omega) (by show capF [b, s, n, c] ≤ _; omega))
  have e7 : bg = budF [b, s, n, c] := o7.trans (i64w (by show _ ≤ budF [b, s, n, c]; omega) (by show budF [b, s, n, c] ≤ _; omega))
  refine ⟨by rw [e6]; exact q1, q2, q3, q4, q5, e6, e7, by rw [e6]; exact q6, ?_, ?_, ?_⟩
  · rw [q2]; exact ⟨g2, g3⟩
  · rw [e6]; exact g4
  · rw [q3]; exact g5
end
end Go.Proofs.Ytfhheeoejncfgaa.Ew
