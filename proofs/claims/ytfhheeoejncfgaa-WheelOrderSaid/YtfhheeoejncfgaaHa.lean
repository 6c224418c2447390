/- Layer 18, plain: lists of timers that are linked by cells of rows. -/
import Derived.Test.YtfhheeoejncfgaaWp
set_option linter.unusedVariables false
set_option linter.unusedSimpArgs false
namespace Go.Proofs.Ytfhheeoejncfgaa.Ew
open Go Go.RowKit
noncomputable section

def rowsOK (ks : List K) (l : RL) : Prop := ∀ r ∈ l, fits ks r
theorem row_at {ks : List K} {c i : Int} (h : rowsOK ks (dc c)) (h0 : 0 ≤ i) (h1 : i < ((dc c).length : Int)) : ∃ r, (dc c).getD i.toNat [] = r ∧ fits ks r ∧ r ∈ dc c ∧ (dc c).drop i.toNat = r :: (dc c).drop (i + 1).toNat := by
  have hl : i.toNat < (dc c).length := by omega
  refine ⟨(dc c)[i.toNat], by simp [List.getD, hl], h _ (List.getElem_mem hl), List.getElem_mem hl, ?_⟩
  rw [List.drop_eq_getElem_cons hl, show (i + 1).toNat = i.toNat + 1 by omega]
theorem two_of {xs : List Int} (h : xs.length = 2) : ∃ a b, xs = [a, b] := by
  match xs, h with
  | [a, b], _ => exact ⟨a, b, rfl⟩

def gC (T : RL) (i j : Nat) : Int := (T.getD i []).getD j 0
def setC (T : RL) (i j : Nat) (vs : List Int) : RL := T.set i (splR (T.getD i []) j vs)
theorem setC_len (T : RL) (i j : Nat) (vs : List Int) : (setC T i j vs).length = T.length := by simp [setC]
theorem setC_row (T : RL) {i : Nat} (a j : Nat) (vs : List Int) (hi : i < T.length) : (setC T i j vs).getD a [] = if a = i then splR (T.getD i []) j vs else T.getD a [] := by
  unfold setC
  simp only [List.getD_eq_getElem?_getD, List.getElem?_set]
  by_cases h : a = i
  · subst h; simp [hi]
  · have h' : ¬ i = a := fun e => h e.symm
    simp [h, h']
theorem splR_len {r vs : List Int} {j : Nat} (h : j + vs.length ≤ r.length) : (splR r j vs).length = r.length := by
  unfold splR; simp; omega
theorem splR_get {r vs : List Int} {j : Nat} (h : j + vs.length ≤ r.length) (b : Nat) : (splR r j vs).getD b 0 = if b < j then r.getD b 0 else if b < j + vs.length then vs.getD (b - j) 0 else r.getD b 0 := by
  unfold splR
  simp only [List.getD_eq_getElem?_getD]
  by_cases h1 : b < j
  · rw [if_pos h1, List.append_assoc, List.getElem?_append_left (by simp; omega), List.getElem?_take, if_pos h1]
  · rw [if_neg h1]
    by_cases h2 : b < j + vs.length
    · rw [if_pos h2, List.append_assoc, List.getElem?_append_right (by simp; omega), List.getElem?_append_left (by simp; omega)]
      congr 2; simp; omega
    · rw [if_neg h2, List.getElem?_append_right (by simp; omega), List.getElem?_drop]
      congr 2; simp; omega
theorem gC_set {T : RL} {i j : Nat} {vs : List Int} (hi : i < T.length) (hj : j + vs.length ≤ (T.getD i []).length) (a b : Nat) :
    gC (setC T i j vs) a b = if a = i ∧ j ≤ b ∧ b < j + vs.length then vs.getD (b - j) 0 else gC T a b := by
  unfold gC
  rw [setC_row T a j vs hi]
  by_cases h : a = i
  · subst h
    rw [if_pos rfl, splR_get hj]
    by_cases h1 : b < j
    · rw [if_pos h1, if_neg (by omega)]
    · rw [if_neg h1]
      by_cases h2 : b < j + vs.length
      · rw [if_pos h2, if_pos ⟨rfl, by omega, h2⟩]
      · rw [if_neg h2, if_neg (by omega)]
  · rw [if_neg h, if_neg (by omega)]
theorem gC_set1 {T : RL} {i j : Nat} {v : Int} (hi : i < T.length) (hj : j < (T.getD i []).length) (a b : Nat) :
    gC (setC T i j [v]) a b = if a = i ∧ b = j then v else gC T a b := by
  rw [gC_set hi (by simp only [List.length_cons, List.length_nil]; omega)]
  by_cases h : a = i ∧ b = j
  · rw [if_pos h, if_pos ⟨h.1, by omega, by simp; omega⟩, h.2]; simp
  · rw [if_neg h, if_neg]
    simp only [List.length_cons, List.length_nil]; omega

/-- Rows of a width. -/
def Wid (T : RL) (n w : Nat) : Prop := T.length = n ∧ ∀ i < n, (T.getD i []).length = w
theorem Wid.set {T : RL} {n w i j : Nat} {vs : List Int} (h : Wid T n w) (hi : i < n) (hj : j + vs.length ≤ w) : Wid (setC T i j vs) n w := by
  obtain ⟨h1, h2⟩ := h
  refine ⟨by rw [setC_len, h1], fun a ha => ?_⟩
  rw [setC_row T a j vs (by omega)]
  split
  · rw [splR_len (by rw [h2 i hi]; exact hj), h2 i hi]
  · exact h2 a ha
theorem Wid.c {T : RL} {n w i j : Nat} {vs : List Int} (h : Wid T n w) (hi : i < n) (hj : j + vs.length ≤ w) (a b : Nat) : gC (setC T i j vs) a b = if a = i ∧ j ≤ b ∧ b < j + vs.length then vs.getD (b - j) 0 else gC T a b :=
  gC_set (by rw [h.1]; exact hi) (by rw [h.2 i hi]; exact hj) a b
theorem Wid.c1 {T : RL} {n w i j : Nat} {v : Int} (h : Wid T n w) (hi : i < n) (hj : j < w) (a b : Nat) : gC (setC T i j [v]) a b = if a = i ∧ b = j then v else gC T a b :=
  gC_set1 (by rw [h.1]; exact hi) (by rw [h.2 i hi]; exact hj) a b

def headP : List Nat → Int
  | [] => 0
  | a :: _ => (a : Int) + 1
def lastP (l : List Nat) : Int := headP l.reverse
theorem lastP_snoc (l : List Nat) (a : Nat) : lastP (l ++ [a]) = (a : Int) + 1 := by simp [lastP, headP]
theorem lastP_nil : lastP [] = 0 := rfl
theorem snoc_cases (l : List Nat) : l = [] ∨ ∃ m a, l = m ++ [a] := by
  rcases List.eq_nil_or_concat l with h | ⟨m, a, h⟩
  · exact Or.inl h
  · exact Or.inr ⟨m, a, by rw [h]; simp⟩

def uQ (Q : Nat → List Nat) (k : Nat) (l : List Nat) : Nat → List Nat := fun m => if m = k then l else Q m
theorem uQ_same (Q : Nat → List Nat) (k : Nat) (l : List Nat) : uQ Q k l k = l := if_pos rfl
theorem uQ_ne (Q : Nat → List Nat) {k m : Nat} (l : List Nat) (h : m ≠ k) : uQ Q k l m = Q m := if_neg h

/-- The rows of timers (level, index, previous, next, deadline) and of lists (first, last, count) hold these lists. -/
structure Lk (T S : RL) (Q : Nat → List Nat) (cap : Nat) : Prop where
  tw : Wid T cap 5
  sw : Wid S 2049 3
  qc : ∀ k, ∀ i ∈ Q k, i < cap
  qk : ∀ k, 2049 ≤ k → Q k = []
  nd : ∀ k, (Q k).Nodup
  dj : ∀ k m i, i ∈ Q k → i ∈ Q m → k = m
  hd : ∀ k < 2049, gC S k 0 = headP (Q k) ∧ gC S k 1 = lastP (Q k) ∧ gC S k 2 = ((Q k).length : Int)
  ch : ∀ k A i B, Q k = A ++ i :: B → gC T i 2 = lastP A ∧ gC T i 3 = headP B

def dropT (T : RL) (i : Nat) : RL :=
  let p := gC T i 2
  let n := gC T i 3
  let T1 := if 0 < p then setC T (p - 1).toNat 3 [n] else T
  let T2 := if 0 < n then setC T1 (n - 1).toNat 2 [p] else T1
  setC T2 i 0 [0, 0, 0, 0, 0]
def dropS (S : RL) (k : Nat) (p n : Int) : RL :=
  let S1 := if 0 < p then S else setC S k 0 [n]
  let S2 := if 0 < n then S1 else setC S1 k 1 [p]
  setC S2 k 2 [gC S2 k 2 - 1]

theorem Lk.q_lt {T S : RL} {Q : Nat → List Nat} {cap k i : Nat} (h : Lk T S Q cap) (hi : i ∈ Q k) : k < 2049 := by
  by_cases hk : k < 2049
  · exact hk
  · rw [h.qk k (by omega)] at hi; cases hi

theorem dropT_spec {T S : RL} {Q : Nat → List Nat} {cap k i : Nat} {A B : List Nat} (h : Lk T S Q cap) (hq : Q k = A ++ i :: B) :
    Wid (dropT T i) cap 5 ∧ ∀ y j, gC (dropT T i) y j = if y = i ∧ j < 5 then 0 else if lastP A = (y : Int) + 1 ∧ j = 3 then headP B else if headP B = (y : Int) + 1 ∧ j = 2 then lastP A else gC T y j := by
  obtain ⟨c1, c2⟩ := h.ch k A i B hq
  have hic : i < cap := h.qc k i (by rw [hq]; simp)
  have hA : ∀ a ∈ A, a < cap := fun a ha => h.qc k a (by rw [hq]; simp [ha])
  have hB : ∀ a ∈ B, a < cap := fun a ha => h.qc k a (by rw [hq]; simp [ha])
  have hnd := h.nd k
  rw [hq] at hnd
  have hpA : lastP A = 0 ∨ ∃ a, a ∈ A ∧ lastP A = (a : Int) + 1 := by
    rcases snoc_cases A with rfl | ⟨m, a, rfl⟩
    · exact Or.inl rfl
    · exact Or.inr ⟨a, by simp, lastP_snoc m a⟩
  have hpB : headP B = 0 ∨ ∃ a, a ∈ B ∧ headP B = (a : Int) + 1 := by
    cases B with
    | nil => exact Or.inl rfl
    | cons b r => exact Or.inr ⟨b, by simp, rfl⟩
  obtain ⟨T1, e1⟩ : ∃ T1, T1 = if 0 < lastP A then setC T (lastP A - 1).toNat 3 [headP B] else T := ⟨_, rfl⟩
  have s1 : Wid T1 cap 5 ∧ ∀ y j, gC T1 y j = if lastP A = (y : Int) + 1 ∧ j = 3 then headP B else gC T y j := by
    rw [e1]
    rcases hpA with e | ⟨a, ha, e⟩
    · rw [e, if_neg (by decide)]
      exact ⟨h.tw, fun y j => by rw [if_neg (by omega)]⟩
    · rw [e, if_pos (by omega), show ((a : Int) + 1 - 1).toNat = a by omega]
      refine ⟨h.tw.set (hA a ha) (by simp), fun y j => ?_⟩
      rw [h.tw.c1 (hA a ha) (by decide)]
      by_cases hy : y = a ∧ j = 3
      · rw [if_pos hy, if_pos (by omega)]
      · rw [if_neg hy, if_neg (by omega)]
  obtain ⟨T2, e2⟩ : ∃ T2, T2 = if 0 < headP B then setC T1 (headP B - 1).toNat 2 [lastP A] else T1 := ⟨_, rfl⟩
  have s2 : Wid T2 cap 5 ∧ ∀ y j, gC T2 y j = if headP B = (y : Int) + 1 ∧ j = 2 then lastP A else gC T1 y j := by
    rw [e2]
    rcases hpB with e | ⟨a, ha, e⟩
    · rw [e, if_neg (by decide)]
      exact ⟨s1.1, fun y j => by rw [if_neg (by omega)]⟩
    · rw [e, if_pos (by omega), show ((a : Int) + 1 - 1).toNat = a by omega]
      refine ⟨s1.1.set (hB a ha) (by simp), fun y j => ?_⟩
      rw [s1.1.c1 (hB a ha) (by decide)]
      by_cases hy : y = a ∧ j = 2
      · rw [if_pos hy, if_pos (by omega)]
      · rw [if_neg hy, if_neg (by omega)]
  have e3 : dropT T i = setC T2 i 0 [0, 0, 0, 0, 0] := by
    unfold dropT
    simp only [c1, c2]
    rw [e2, e1]
  rw [e3]
  refine ⟨s2.1.set hic (by simp), fun y j => ?_⟩
  rw [s2.1.c hic (by simp)]
  by_cases hy : y = i ∧ j < 5
  · rw [if_pos (by simpa using hy), if_pos hy]
    match j, hy.2 with
    | 0, _ | 1, _ | 2, _ | 3, _ | 4, _ => rfl
  · rw [if_neg (by simpa using hy), if_neg hy, s2.2, s1.2]
    by_cases g1 : headP B = (y : Int) + 1 ∧ j = 2
    · rw [if_pos g1, if_neg (by omega), if_pos g1]
    · rw [if_neg g1]
      by_cases g2 : lastP A = (y : Int) + 1 ∧ j = 3
      · rw [if_pos g2, if_pos g2]
      · rw [if_neg g2, if_neg g2, if_neg g1]

theorem dropS_spec {S : RL} {k : Nat} {p n : Int} (h : Wid S 2049 3) (hk : k < 2049) (hp : 0 ≤ p) (hn : 0 ≤ n) :
    Wid (dropS S k p n) 2049 3 ∧ ∀ m j, gC (dropS S k p n) m j = if m = k ∧ j = 2 then gC S k 2 - 1 else if m = k ∧ j = 1 ∧ n = 0 then p else if m = k ∧ j = 0 ∧ p = 0 then n else gC S m j := by
  obtain ⟨S1, e1⟩ : ∃ S1, S1 = if 0 < p then S else setC S k 0 [n] := ⟨_, rfl⟩
  have s1 : Wid S1 2049 3 ∧ ∀ m j, gC S1 m j = if m = k ∧ j = 0 ∧ p = 0 then n else gC S m j := by
    rw [e1]
    by_cases hp0 : 0 < p
    · rw [if_pos hp0]
      exact ⟨h, fun m j => by rw [if_neg (by omega)]⟩
    · rw [if_neg hp0]
      refine ⟨h.set hk (by simp), fun m j => ?_⟩
      rw [h.c1 hk (by decide)]
      by_cases g : m = k ∧ j = 0
      · rw [if_pos g, if_pos (by omega)]
      · rw [if_neg g, if_neg (by omega)]
  obtain ⟨S2, e2⟩ : ∃ S2, S2 = if 0 < n then S1 else setC S1 k 1 [p] := ⟨_, rfl⟩
  have s2 : Wid S2 2049 3 ∧ ∀ m j, gC S2 m j = if m = k ∧ j = 1 ∧ n = 0 then p else gC S1 m j := by
    rw [e2]
    by_cases hn0 : 0 < n
    · rw [if_pos hn0]
      exact ⟨s1.1, fun m j => by rw [if_neg (by omega)]⟩
    · rw [if_neg hn0]
      refine ⟨s1.1.set hk (by simp), fun m j => ?_⟩
      rw [s1.1.c1 hk (by decide)]
      by_cases g : m = k ∧ j = 1
      · rw [if_pos g, if_pos (by omega)]
      · rw [if_neg g, if_neg (by omega)]
  have e3 : dropS S k p n = setC S2 k 2 [gC S2 k 2 - 1] := by
    unfold dropS
    rw [e2, e1]
  rw [e3]
  refine ⟨s2.1.set hk (by simp), fun m j => ?_⟩
  rw [s2.1.c1 hk (by decide)]
  by_cases g : m = k ∧ j = 2
  · rw [if_pos g, if_pos g, s2.2, if_neg (by omega), s1.2, if_neg (by omega)]
  · rw [if_neg g, if_neg g, s2.2, s1.2]

theorem headP_nonneg (l : List Nat) : 0 ≤ headP l := by cases l <;> simp [headP]; omega
theorem lastP_nonneg (l : List Nat) : 0 ≤ lastP l := headP_nonneg _
theorem headP_mem {l : List Nat} {y : Nat} (h : headP l = (y : Int) + 1) : y ∈ l := by
  cases l with
  | nil => simp [headP] at h; omega
  | cons a r => simp only [headP] at h; have : a = y := by omega
                subst this; simp
theorem lastP_mem {l : List Nat} {y : Nat} (h : lastP l = (y : Int) + 1) : y ∈ l := by
  have := headP_mem h
  simpa using this
theorem headP_app {A : List Nat} (B : List Nat) (h : A ≠ []) : headP (A ++ B) = headP A := by
  cases A with
  | nil => exact absurd rfl h
  | cons a r => rfl
theorem lastP_app (A : List Nat) {B : List Nat} (h : B ≠ []) : lastP (A ++ B) = lastP B := by
  rcases snoc_cases B with rfl | ⟨m, a, rfl⟩
  · exact absurd rfl h
  · rw [← List.append_assoc, lastP_snoc, lastP_snoc]
theorem lastP_cons (i : Nat) {B : List Nat} (h : B ≠ []) : lastP (i :: B) = lastP B := lastP_app [i] h
theorem headP_zero {l : List Nat} : headP l = 0 ↔ l = [] := by
  cases l with
  | nil => simp [headP]
  | cons a r => simp [headP]; omega
theorem lastP_zero {l : List Nat} : lastP l = 0 ↔ l = [] := by
  unfold lastP; rw [headP_zero]; simp

theorem Lk.drop {T S : RL} {Q : Nat → List Nat} {cap k i : Nat} {A B : List Nat} (h : Lk T S Q cap) (hq : Q k = A ++ i :: B) :
    Lk (dropT T i) (dropS S k (gC T i 2) (gC T i 3)) (uQ Q k (A ++ B)) cap := by
  obtain ⟨t1, t2⟩ := dropT_spec h hq
  obtain ⟨c1, c2⟩ := h.ch k A i B hq
  have hk := h.q_lt (k := k) (i := i) (by rw [hq]; simp)
  obtain ⟨s1, s2⟩ := dropS_spec h.sw hk (p := gC T i 2) (n := gC T i 3) (by rw [c1]; exact lastP_nonneg _) (by rw [c2]; exact headP_nonneg _)
  have hnd := h.nd k
  rw [hq] at hnd
  obtain ⟨n1, n2, n3⟩ := List.nodup_append.1 hnd
  obtain ⟨n4, n5⟩ := List.nodup_cons.1 n2
  have hiA : i ∉ A := fun hA => n3 i hA i (by simp) rfl
  have hAB : ∀ x, x ∈ A → x ∈ B → False := fun x hA hB => n3 x hA x (by simp [hB]) rfl
  have q2 : ∀ y, y ≠ i → gC (dropT T i) y 2 = if headP B = (y : Int) + 1 then lastP A else gC T y 2 := fun y hy => by rw [t2]; simp [hy]
  have q3 : ∀ y, y ≠ i → gC (dropT T i) y 3 = if lastP A = (y : Int) + 1 then headP B else gC T y 3 := fun y hy => by rw [t2]; simp [hy]
  have sub : ∀ m x, x ∈ uQ Q k (A ++ B) m → x ∈ Q m ∧ x ≠ i := fun m x hx => by
    by_cases hm : m = k
    · subst hm
      rw [uQ_same] at hx
      rcases List.mem_append.1 hx with hx | hx
      · exact ⟨by rw [hq]; simp [hx], fun e => hiA (e ▸ hx)⟩
      · exact ⟨by rw [hq]; simp [hx], fun e => n4 (e ▸ hx)⟩
    · rw [uQ_ne Q _ hm] at hx
      exact ⟨hx, fun e => hm (h.dj m k i (e ▸ hx) (by rw [hq]; simp))⟩
  refine ⟨t1, s1, fun m x hx => h.qc m x (sub m x hx).1, fun m hm => ?_, fun m => ?_, fun m m' x h1 h2 => h.dj _ _ x (sub m x h1).1 (sub m' x h2).1, fun m hm => ?_, fun m A' y B' hy => ?_⟩
  · rw [uQ_ne Q _ (by omega)]; exact h.qk m hm
  · by_cases hm : m = k
    · subst hm
      rw [uQ_same]
      exact List.Nodup.sublist (List.Sublist.append (List.Sublist.refl A) (List.sublist_cons_self i B)) hnd
    · rw [uQ_ne Q _ hm]; exact h.nd m
  · by_cases hmk : m = k
    · subst hmk
      obtain ⟨d0, d1, d2⟩ := h.hd m hm
      rw [uQ_same, s2, s2, s2]
      rw [hq] at d0 d1 d2
      refine ⟨?_, ?_, ?_⟩
      · rw [if_neg (by omega), if_neg (by omega)]
        by_cases hA : A = []
        · subst hA
          rw [if_pos ⟨rfl, rfl, by rw [c1]; rfl⟩, c2]; rfl
        · rw [if_neg (fun g => hA (lastP_zero.1 (by rw [← c1]; exact g.2.2))), d0, headP_app _ hA, headP_app _ hA]
      · rw [if_neg (by omega)]
        by_cases hB : B = []
        · subst hB
          rw [if_pos ⟨rfl, rfl, by rw [c2]; rfl⟩, c1, List.append_nil]
        · rw [if_neg (fun g => hB (headP_zero.1 (by rw [← c2]; exact g.2.2))), if_neg (by omega), d1, lastP_app _ (by simp), lastP_app _ hB, lastP_cons _ hB]
      · rw [if_pos ⟨rfl, rfl⟩, d2]; simp; omega
    · rw [uQ_ne Q _ hmk, s2, s2, s2]
      simp only [hmk, false_and, if_false]
      exact h.hd m hm
  · by_cases hm : m = k
    · subst hm
      rw [uQ_same] at hy
      have alpha : ∀ C, B = C ++ y :: B' → A' = A ++ C → gC (dropT T i) y 2 = lastP A' ∧ gC (dropT T i) y 3 = headP B' := fun C e1 e2 => by
        have hyB : y ∈ B := by rw [e1]; simp
        have hyi : y ≠ i := fun e => n4 (e ▸ hyB)
        obtain ⟨o1, o2⟩ := h.ch m (A ++ i :: C) y B' (by rw [hq, e1]; simp)
        rw [q2 y hyi, q3 y hyi, if_neg (c := lastP A = (y : Int) + 1) (fun g => hAB y (lastP_mem g) hyB)]
        refine ⟨?_, o2⟩
        cases C with
        | nil => rw [if_pos (by rw [e1]; rfl), e2, List.append_nil]
        | cons c C' =>
          have hcy : c ≠ y := by
            intro e
            rw [e1, e] at n5
            simp at n5
          rw [if_neg (fun g => hcy (by rw [e1] at g; simp only [List.cons_append, headP] at g; omega)), o1, e2, lastP_app _ (by simp), lastP_app _ (by simp), lastP_cons _ (by simp)]
      rcases List.append_eq_append_iff.1 hy with ⟨C, e1, e2⟩ | ⟨C, e1, e2⟩
      · exact alpha C e2 e1
      · cases C with
        | nil => exact alpha [] (by simpa using e2.symm) (by simpa using e1.symm)
        | cons c C' =>
          simp only [List.cons_append, List.cons.injEq] at e2
          obtain ⟨rfl, e2⟩ := e2
          have hyA : y ∈ A := by rw [e1]; simp
          have hyi : y ≠ i := fun e => hiA (e ▸ hyA)
          obtain ⟨o1, o2⟩ := h.ch m A' y (C' ++ i :: B) (by rw [hq, e1]; simp)
          rw [q2 y hyi, q3 y hyi, if_neg (c := headP B = (y : Int) + 1) (fun g => hAB y hyA (headP_mem g))]
          refine ⟨o1, ?_⟩
          cases C' with
          | nil => rw [if_pos (by rw [e1, lastP_snoc]), e2]; rfl
          | cons c' C'' =>
            have hl : lastP A ≠ (y : Int) + 1 := fun g => by
              rw [e1, lastP_app _ (by simp), lastP_cons _ (by simp)] at g
              have hm' := lastP_mem g
              rw [e1] at n1
              have := (List.nodup_append.1 n1).2.1
              exact (List.nodup_cons.1 this).1 hm'
            rw [if_neg hl, o2, e2]; rfl
    · rw [uQ_ne Q _ hm] at hy
      have hyQ : y ∈ Q m := by rw [hy]; simp
      have hne : ∀ x, x ∈ Q m → x ∈ Q k → False := fun x h1 h2 => hm (h.dj m k x h1 h2)
      have hyi : y ≠ i := fun e => hne y hyQ (by rw [hq, e]; simp)
      rw [q2 y hyi, q3 y hyi, if_neg (c := headP B = (y : Int) + 1) (fun g => hne y hyQ (by rw [hq]; simp [headP_mem g])), if_neg (c := lastP A = (y : Int) + 1) (fun g => hne y hyQ (by rw [hq]; simp [lastP_mem g]))]
      exact h.ch m A' y B' hy

/-! ### a timer put at the end -/
def putT (T : RL) (i : Nat) (lv ix d la : Int) : RL :=
  let T1 := setC (setC T i 0 [lv, ix]) i 4 [d]
  let T2 := setC (setC T1 i 2 [la]) i 3 [0]
  if 0 < la then setC T2 (la - 1).toNat 3 [(i : Int) + 1] else T2
def putS (S : RL) (k i : Nat) : RL :=
  let S1 := if 0 < gC S k 1 then S else setC S k 0 [(i : Int) + 1]
  let S2 := setC S1 k 1 [(i : Int) + 1]
  setC S2 k 2 [gC S2 k 2 + 1]

theorem putT_spec {T : RL} {cap i : Nat} {lv ix d la : Int} (h : Wid T cap 5) (hi : i < cap) (hla : la = 0 ∨ ∃ a : Nat, a < cap ∧ a ≠ i ∧ la = (a : Int) + 1) :
    Wid (putT T i lv ix d la) cap 5 ∧ ∀ y j, gC (putT T i lv ix d la) y j = if y = i ∧ j < 5 then [lv, ix, la, 0, d].getD j 0 else if la = (y : Int) + 1 ∧ j = 3 then (i : Int) + 1 else gC T y j := by
  have w1 := h.set (vs := [lv, ix]) (j := 0) hi (by simp)
  have w2 := w1.set (vs := [d]) (j := 4) hi (by simp)
  have w3 := w2.set (vs := [la]) (j := 2) hi (by simp)
  have w4 := w3.set (vs := [0]) (j := 3) hi (by simp)
  have g4 : ∀ y j, gC (setC (setC (setC (setC T i 0 [lv, ix]) i 4 [d]) i 2 [la]) i 3 [0]) y j = if y = i ∧ j < 5 then [lv, ix, la, 0, d].getD j 0 else gC T y j := fun y j => by
    rw [w3.c1 hi (by decide), w2.c1 hi (by decide), w1.c1 hi (by decide), h.c hi (by simp)]
    by_cases hy : y = i
    · subst hy
      match j with
      | 0 | 1 | 2 | 3 | 4 => simp
      | j + 5 =>
        rw [if_neg (by omega), if_neg (by omega), if_neg (by omega), if_neg (by simp), if_neg (by omega)]
    · simp [hy]
  unfold putT
  simp only
  rcases hla with rfl | ⟨a, ha, hai, rfl⟩
  · rw [if_neg (by decide)]
    refine ⟨w4, fun y j => ?_⟩
    rw [g4, if_neg (c := (0 : Int) = (y : Int) + 1 ∧ j = 3) (by omega)]
  · rw [if_pos (by omega), show ((a : Int) + 1 - 1).toNat = a by omega]
    refine ⟨w4.set ha (by simp), fun y j => ?_⟩
    rw [w4.c1 ha (by decide), g4]
    by_cases hy : y = a ∧ j = 3
    · rw [if_pos hy, if_neg (by omega), if_pos (by omega)]
    · rw [if_neg hy]
      by_cases hz : y = i ∧ j < 5
      · rw [if_pos hz, if_pos hz]
      · rw [if_neg hz, if_neg hz, if_neg (by omega)]

theorem putS_spec {S : RL} {k i : Nat} (h : Wid S 2049 3) (hk : k < 2049) (hla : 0 ≤ gC S k 1) :
    Wid (putS S k i) 2049 3 ∧ ∀ m j, gC (putS S k i) m j = if m = k ∧ j = 2 then gC S k 2 + 1 else if m = k ∧ j = 1 then (i : Int) + 1 else if m = k ∧ j = 0 ∧ gC S k 1 = 0 then (i : Int) + 1 else gC S m j := by
  obtain ⟨S1, e1⟩ : ∃ S1, S1 = if 0 < gC S k 1 then S else setC S k 0 [(i : Int) + 1] := ⟨_, rfl⟩
  have s1 : Wid S1 2049 3 ∧ ∀ m j, gC S1 m j = if m = k ∧ j = 0 ∧ gC S k 1 = 0 then (i : Int) + 1 else gC S m j := by
    rw [e1]
    by_cases hp0 : 0 < gC S k 1
    · rw [if_pos hp0]
      exact ⟨h, fun m j => by rw [if_neg (by omega)]⟩
    · rw [if_neg hp0]
      refine ⟨h.set hk (by simp), fun m j => ?_⟩
      rw [h.c1 hk (by decide)]
      by_cases g : m = k ∧ j = 0
      · rw [if_pos g, if_pos (by omega)]
      · rw [if_neg g, if_neg (by omega)]
  have w2 := s1.1.set (vs := [(i : Int) + 1]) (j := 1) hk (by simp)
  have e3 : putS S k i = setC (setC S1 k 1 [(i : Int) + 1]) k 2 [gC (setC S1 k 1 [(i : Int) + 1]) k 2 + 1] := by
    unfold putS
    rw [e1]
  rw [e3]
  refine ⟨w2.set hk (by simp), fun m j => ?_⟩
  rw [w2.c1 hk (by decide), s1.1.c1 hk (by decide), s1.1.c1 hk (by decide), s1.2, s1.2]
  by_cases g : m = k ∧ j = 2
  · rw [if_pos g, if_pos g, if_neg (by omega), if_neg (by omega)]
  · rw [if_neg g, if_neg g]

theorem Lk.put {T S : RL} {Q : Nat → List Nat} {cap k i : Nat} {lv ix d : Int} (h : Lk T S Q cap) (hk : k < 2049) (hi : i < cap) (hn : ∀ m, i ∉ Q m) :
    Lk (putT T i lv ix d (gC S k 1)) (putS S k i) (uQ Q k (Q k ++ [i])) cap := by
  obtain ⟨d0, d1, d2⟩ := h.hd k hk
  have hla : gC S k 1 = 0 ∨ ∃ a : Nat, a < cap ∧ a ≠ i ∧ gC S k 1 = (a : Int) + 1 := by
    rw [d1]
    rcases snoc_cases (Q k) with e | ⟨m, a, e⟩
    · exact Or.inl (by rw [e]; rfl)
    · have ha : a ∈ Q k := by rw [e]; simp
      exact Or.inr ⟨a, h.qc k a ha, fun x => hn k (x ▸ ha), by rw [e, lastP_snoc]⟩
  obtain ⟨t1, t2⟩ := putT_spec (lv := lv) (ix := ix) (d := d) h.tw hi hla
  obtain ⟨s1, s2⟩ := putS_spec (i := i) h.sw hk (by rw [d1]; exact lastP_nonneg _)
  have sub : ∀ m x, x ∈ uQ Q k (Q k ++ [i]) m → x ∈ Q m ∨ (x = i ∧ m = k) := fun m x hx => by
    by_cases hm : m = k
    · subst hm
      rw [uQ_same] at hx
      rcases List.mem_append.1 hx with hx | hx
      · exact Or.inl hx
      · exact Or.inr ⟨by simpa using hx, rfl⟩
    · rw [uQ_ne Q _ hm] at hx; exact Or.inl hx
  refine ⟨t1, s1, fun m x hx => ?_, fun m hm => ?_, fun m => ?_, fun m m' x h1 h2 => ?_, fun m hm => ?_, fun m A' y B' hy => ?_⟩
  · rcases sub m x hx with h1 | ⟨rfl, _⟩
    · exact h.qc m x h1
    · exact hi
  · rw [uQ_ne Q _ (by omega)]; exact h.qk m hm
  · by_cases hm : m = k
    · subst hm
      rw [uQ_same]
      refine List.nodup_append.2 ⟨h.nd m, by simp, fun a ha b hb e => ?_⟩
      have : b = i := by simpa using hb
      exact hn m (by rw [← this, ← e]; exact ha)
    · rw [uQ_ne Q _ hm]; exact h.nd m
  · rcases sub m x h1 with g1 | ⟨e1, g1⟩
    · rcases sub m' x h2 with g2 | ⟨e2, g2⟩
      · exact h.dj m m' x g1 g2
      · exact absurd (e2 ▸ g1) (hn m)
    · rcases sub m' x h2 with g2 | ⟨e2, g2⟩
      · exact absurd (e1 ▸ g2) (hn m')
      · rw [g1, g2]
  · by_cases hmk : m = k
    · subst hmk
      rw [uQ_same, s2, s2, s2]
      refine ⟨?_, ?_, ?_⟩
      · rw [if_neg (by omega), if_neg (by omega)]
        by_cases hA : Q m = []
        · rw [if_pos ⟨rfl, rfl, by rw [d1, hA]; rfl⟩, hA]; rfl
        · rw [if_neg (fun g => hA (lastP_zero.1 (by rw [← d1]; exact g.2.2))), d0, headP_app _ hA]
      · rw [if_neg (by omega), if_pos ⟨rfl, rfl⟩, lastP_snoc]
      · rw [if_pos ⟨rfl, rfl⟩, d2]; simp
    · rw [uQ_ne Q _ hmk, s2, s2, s2]
      simp only [hmk, false_and, if_false]
      exact h.hd m hm
  · have q2 : y ≠ i → gC (putT T i lv ix d (gC S k 1)) y 2 = gC T y 2 := fun hyi => by rw [t2]; simp [hyi]
    have q3 : y ≠ i → gC (putT T i lv ix d (gC S k 1)) y 3 = if gC S k 1 = (y : Int) + 1 then (i : Int) + 1 else gC T y 3 := fun hyi => by rw [t2]; simp [hyi]
    by_cases hm : m = k
    · subst hm
      rw [uQ_same] at hy
      rcases snoc_cases B' with rfl | ⟨B'', z, rfl⟩
      · have e := List.append_inj_right' hy rfl
        have e' := List.append_inj_left' hy rfl
        have : i = y := by simpa using e
        subst this
        rw [t2, t2, if_pos ⟨rfl, by decide⟩, if_pos ⟨rfl, by decide⟩, ← e', d1]
        exact ⟨rfl, rfl⟩
      · have hy' : Q m ++ [i] = (A' ++ y :: B'') ++ [z] := by rw [hy]; simp
        have e' := List.append_inj_left' hy' rfl
        have e : i = z := by simpa using List.append_inj_right' hy' rfl
        subst e
        have hyQ : y ∈ Q m := by rw [e']; simp
        have hyi : y ≠ i := fun e => hn m (e ▸ hyQ)
        obtain ⟨o1, o2⟩ := h.ch m A' y B'' e'
        rw [q2 hyi, q3 hyi, d1]
        refine ⟨o1, ?_⟩
        cases B'' with
        | nil => rw [if_pos (by rw [e', lastP_snoc])]; rfl
        | cons c C =>
          have hl : lastP (Q m) ≠ (y : Int) + 1 := fun g => by
            rw [e', lastP_app _ (by simp), lastP_cons _ (by simp)] at g
            have hm' := lastP_mem g
            have := h.nd m
            rw [e'] at this
            exact (List.nodup_cons.1 (List.nodup_append.1 this).2.1).1 hm'
          rw [if_neg hl, o2]; rfl
    · rw [uQ_ne Q _ hm] at hy
      have hyQ : y ∈ Q m := by rw [hy]; simp
      have hyi : y ≠ i := fun e => hn m (e ▸ hyQ)
      rw [q2 hyi, q3 hyi, if_neg (fun g => hm (h.dj m k y hyQ (lastP_mem (by rw [← d1]; exact g))))]
      exact h.ch m A' y B' hy

/-! ### a list put behind the backlog -/
def joinT (T : RL) (f bl : Int) : RL := setC (if 0 < bl then setC T (bl - 1).toNat 3 [f] else T) (f - 1).toNat 2 [bl]
def joinS (S : RL) (k : Nat) : RL :=
  let S1 := if 0 < gC S 2048 1 then S else setC S 2048 0 [gC S k 0]
  let S2 := setC S1 2048 1 [gC S k 1]
  setC (setC S2 2048 2 [gC S2 2048 2 + gC S k 2]) k 0 [0, 0, 0]

theorem Lk.join {T S : RL} {Q : Nat → List Nat} {cap k : Nat} (h : Lk T S Q cap) (hk : k < 2048) (hne : Q k ≠ []) :
    Lk (joinT T (gC S k 0) (gC S 2048 1)) (joinS S k) (uQ (uQ Q 2048 (Q 2048 ++ Q k)) k []) cap := by
  obtain ⟨d0, d1, d2⟩ := h.hd k (by omega)
  obtain ⟨b0, b1, b2⟩ := h.hd 2048 (by omega)
  obtain ⟨f, F, hF⟩ : ∃ f F, Q k = f :: F := by
    cases hq : Q k with
    | nil => exact absurd hq hne
    | cons f F => exact ⟨f, F, rfl⟩
  have ef : gC S k 0 = (f : Int) + 1 := by rw [d0, hF]; rfl
  have hfk : f ∈ Q k := by rw [hF]; simp
  have hfc := h.qc k f hfk
  have dis : ∀ x, x ∈ Q k → x ∈ Q 2048 → False := fun x h1 h2 => by have := h.dj _ _ x h1 h2; omega
  have t : Wid (joinT T (gC S k 0) (gC S 2048 1)) cap 5 ∧ ∀ y j, gC (joinT T (gC S k 0) (gC S 2048 1)) y j = if y = f ∧ j = 2 then lastP (Q 2048) else if lastP (Q 2048) = (y : Int) + 1 ∧ j = 3 then (f : Int) + 1 else gC T y j := by
    unfold joinT
    rw [ef, b1, show ((f : Int) + 1 - 1).toNat = f by omega]
    rcases snoc_cases (Q 2048) with e | ⟨m, a, e⟩
    · rw [e, lastP_nil, if_neg (by decide)]
      refine ⟨h.tw.set hfc (by simp), fun y j => ?_⟩
      rw [h.tw.c1 hfc (by decide), if_neg (c := (0 : Int) = (y : Int) + 1 ∧ j = 3) (by omega)]
    · have ha : a ∈ Q 2048 := by rw [e]; simp
      rw [e, lastP_snoc, if_pos (by omega), show ((a : Int) + 1 - 1).toNat = a by omega]
      have w := h.tw.set (vs := [(f : Int) + 1]) (j := 3) (h.qc _ a ha) (by simp)
      refine ⟨w.set hfc (by simp), fun y j => ?_⟩
      rw [w.c1 hfc (by decide), h.tw.c1 (h.qc _ a ha) (by decide)]
      by_cases g : y = a ∧ j = 3
      · rw [if_neg (c := y = f ∧ j = 2) (by omega), if_pos g, if_neg (c := y = f ∧ j = 2) (by omega), if_pos (by omega)]
      · rw [if_neg (c := y = a ∧ j = 3) g, if_neg (c := (a : Int) + 1 = (y : Int) + 1 ∧ j = 3) (by omega)]
  obtain ⟨t1, t2⟩ := t
  have sS : Wid (joinS S k) 2049 3 ∧ ∀ m j, gC (joinS S k) m j = if m = k ∧ j < 3 then 0 else if m = 2048 ∧ j = 2 then gC S 2048 2 + gC S k 2 else if m = 2048 ∧ j = 1 then gC S k 1 else if m = 2048 ∧ j = 0 ∧ gC S 2048 1 = 0 then gC S k 0 else gC S m j := by
    obtain ⟨S1, e1⟩ : ∃ S1, S1 = if 0 < gC S 2048 1 then S else setC S 2048 0 [gC S k 0] := ⟨_, rfl⟩
    have s1 : Wid S1 2049 3 ∧ ∀ m j, gC S1 m j = if m = 2048 ∧ j = 0 ∧ gC S 2048 1 = 0 then gC S k 0 else gC S m j := by
      rw [e1]
      have hla : 0 ≤ gC S 2048 1 := by rw [b1]; exact lastP_nonneg _
      by_cases hp0 : 0 < gC S 2048 1
      · rw [if_pos hp0]
        exact ⟨h.sw, fun m j => by rw [if_neg (by omega)]⟩
      · rw [if_neg hp0]
        refine ⟨h.sw.set (by omega) (by simp), fun m j => ?_⟩
        rw [h.sw.c1 (by omega) (by decide)]
        by_cases g : m = 2048 ∧ j = 0
        · rw [if_pos g, if_pos (by omega)]
        · rw [if_neg g, if_neg (by omega)]
    have w2 := s1.1.set (i := 2048) (vs := [gC S k 1]) (j := 1) (by omega) (by simp)
    have w3 := w2.set (i := 2048) (vs := [gC (setC S1 2048 1 [gC S k 1]) 2048 2 + gC S k 2]) (j := 2) (by omega) (by simp)
    have e3 : joinS S k = setC (setC (setC S1 2048 1 [gC S k 1]) 2048 2 [gC (setC S1 2048 1 [gC S k 1]) 2048 2 + gC S k 2]) k 0 [0, 0, 0] := by
      unfold joinS
      rw [e1]
    rw [e3]
    refine ⟨w3.set (by omega) (by simp), fun m j => ?_⟩
    rw [w3.c (by omega) (by simp), w2.c1 (by omega) (by decide), s1.1.c1 (by omega) (by decide), s1.1.c1 (by omega) (by decide), s1.2, s1.2]
    by_cases g : m = k ∧ j < 3
    · rw [if_pos (by simpa using g), if_pos g]
      match j, g.2 with
      | 0, _ | 1, _ | 2, _ => rfl
    · rw [if_neg (by simpa using g), if_neg g]
      by_cases g2 : m = 2048 ∧ j = 2
      · rw [if_pos g2, if_pos g2, if_neg (by omega), if_neg (by omega)]
      · rw [if_neg g2, if_neg g2]
  obtain ⟨s1, s2⟩ := sS
  have hU : ∀ m, uQ (uQ Q 2048 (Q 2048 ++ Q k)) k [] m = if m = k then [] else if m = 2048 then Q 2048 ++ Q k else Q m := fun m => rfl
  have sub : ∀ m x, x ∈ uQ (uQ Q 2048 (Q 2048 ++ Q k)) k [] m → m ≠ k ∧ ((m = 2048 ∧ (x ∈ Q 2048 ∨ x ∈ Q k)) ∨ (m ≠ 2048 ∧ x ∈ Q m)) := fun m x hx => by
    rw [hU] at hx
    by_cases hm : m = k
    · rw [if_pos hm] at hx; cases hx
    · rw [if_neg hm] at hx
      refine ⟨hm, ?_⟩
      by_cases hm' : m = 2048
      · rw [if_pos hm'] at hx
        exact Or.inl ⟨hm', List.mem_append.1 hx⟩
      · rw [if_neg hm'] at hx; exact Or.inr ⟨hm', hx⟩
  have ndB : (Q 2048 ++ Q k).Nodup := List.nodup_append.2 ⟨h.nd _, h.nd _, fun a ha b hb e => dis b hb (e ▸ ha)⟩
  refine ⟨t1, s1, fun m x hx => ?_, fun m hm => ?_, fun m => ?_, fun m m' x h1 h2 => ?_, fun m hm => ?_, fun m A' y B' hy => ?_⟩
  · rcases (sub m x hx).2 with ⟨_, h1 | h1⟩ | ⟨_, h1⟩ <;> exact h.qc _ x h1
  · rw [hU, if_neg (by omega), if_neg (by omega)]; exact h.qk m hm
  · rw [hU]
    by_cases hm : m = k
    · rw [if_pos hm]; exact List.nodup_nil
    · rw [if_neg hm]
      by_cases hm' : m = 2048
      · rw [if_pos hm']; exact ndB
      · rw [if_neg hm']; exact h.nd m
  · obtain ⟨n1, g1⟩ := sub m x h1
    obtain ⟨n2, g2⟩ := sub m' x h2
    rcases g1 with ⟨e1, g1 | g1⟩ | ⟨e1, g1⟩ <;> rcases g2 with ⟨e2, g2 | g2⟩ | ⟨e2, g2⟩
    · rw [e1, e2]
    · rw [e1, e2]
    · exact absurd (h.dj _ _ x g1 g2).symm e2
    · rw [e1, e2]
    · rw [e1, e2]
    · exact absurd (h.dj _ _ x g1 g2).symm n2
    · exact absurd (h.dj _ _ x g1 g2) e1
    · exact absurd (h.dj _ _ x g1 g2) n1
    · exact h.dj _ _ x g1 g2
  · rw [hU, s2, s2, s2]
    by_cases hmk : m = k
    · rw [if_pos hmk, if_pos ⟨hmk, by decide⟩, if_pos ⟨hmk, by decide⟩, if_pos ⟨hmk, by decide⟩]
      exact ⟨rfl, rfl, rfl⟩
    · simp only [hmk, false_and, if_false]
      by_cases hm' : m = 2048
      · subst hm'
        simp only [true_and, if_true]
        refine ⟨?_, ?_, ?_⟩
        · rw [if_neg (by omega), if_neg (by omega)]
          by_cases hA : Q 2048 = []
          · rw [if_pos (by rw [b1, hA]; rfl), d0, hA]; rfl
          · rw [if_neg (fun g => hA (lastP_zero.1 (by rw [← b1]; exact g))), b0, headP_app _ hA]
        · rw [if_neg (by omega), d1, lastP_app _ hne]
        · rw [b2, d2]; simp
      · simp only [hm', false_and, if_false]
        exact h.hd m hm
  · rw [hU] at hy
    by_cases hm : m = k
    · rw [if_pos hm] at hy; simp at hy
    · rw [if_neg hm] at hy
      have q2 : gC (joinT T (gC S k 0) (gC S 2048 1)) y 2 = if y = f then lastP (Q 2048) else gC T y 2 := by rw [t2]; simp
      have q3 : gC (joinT T (gC S k 0) (gC S 2048 1)) y 3 = if lastP (Q 2048) = (y : Int) + 1 then (f : Int) + 1 else gC T y 3 := by rw [t2]; simp
      rw [q2, q3]
      by_cases hm' : m = 2048
      · rw [if_pos hm'] at hy
        have inK : ∀ C, Q k = C ++ y :: B' → A' = Q 2048 ++ C → (if y = f then lastP (Q 2048) else gC T y 2) = lastP A' ∧ (if lastP (Q 2048) = (y : Int) + 1 then (f : Int) + 1 else gC T y 3) = headP B' := fun C e1 e2 => by
          have hyk : y ∈ Q k := by rw [e1]; simp
          obtain ⟨o1, o2⟩ := h.ch k C y B' e1
          rw [if_neg (c := lastP (Q 2048) = (y : Int) + 1) (fun g => dis y hyk (lastP_mem g))]
          refine ⟨?_, o2⟩
          cases C with
          | nil =>
            have : f = y := by rw [hF] at e1; simpa using (List.cons.inj e1).1
            rw [if_pos this.symm, e2, List.append_nil]
          | cons c C' =>
            have hfc : f = c := by rw [hF] at e1; exact (List.cons.inj e1).1
            have hne' : ¬ y = f := fun e => by
              have := h.nd k
              rw [e1, ← hfc, ← e] at this
              simp at this
            rw [if_neg hne', o1, e2, lastP_app _ (by simp)]
        rcases List.append_eq_append_iff.1 hy with ⟨C, e1, e2⟩ | ⟨C, e1, e2⟩
        · exact inK C e2 e1
        · cases C with
          | nil => exact inK [] (by simpa using e2.symm) (by simpa using e1.symm)
          | cons c C' =>
            simp only [List.cons_append, List.cons.injEq] at e2
            obtain ⟨rfl, e2⟩ := e2
            have hyB : y ∈ Q 2048 := by rw [e1]; simp
            obtain ⟨o1, o2⟩ := h.ch 2048 A' y C' e1
            have hyf : ¬ y = f := fun e => dis f hfk (e ▸ hyB)
            rw [if_neg hyf]
            refine ⟨o1, ?_⟩
            cases C' with
            | nil => rw [if_pos (by rw [e1, lastP_snoc]), e2, List.nil_append, hF]; rfl
            | cons c' C'' =>
              have hl : lastP (Q 2048) ≠ (y : Int) + 1 := fun g => by
                rw [e1, lastP_app _ (by simp), lastP_cons _ (by simp)] at g
                have hm' := lastP_mem g
                have := h.nd 2048
                rw [e1] at this
                exact (List.nodup_cons.1 (List.nodup_append.1 this).2.1).1 hm'
              rw [if_neg hl, o2, e2]; rfl
      · rw [if_neg hm'] at hy
        have hyQ : y ∈ Q m := by rw [hy]; simp
        rw [if_neg (c := y = f) (fun e => hm (h.dj m k y hyQ (e ▸ hfk))), if_neg (c := lastP (Q 2048) = (y : Int) + 1) (fun g => hm' (h.dj m 2048 y hyQ (lastP_mem g)))]
        exact h.ch m A' y B' hy

end
end Go.Proofs.Ytfhheeoejncfgaa.Ew
