/- Texts that the claim needs, set narrow. -/
import Derived.Test.Ytnockichpnaoeaat3
import Derived.Test.YtnockichpnaoeaaChecked
set_option linter.unusedVariables false
set_option linter.unusedSimpArgs false
namespace Go.Proofs.Ytnockichpnaoeaa.Ew
open Go Go.RowKit
noncomputable section
abbrev vI (i : Nat) : E := .var kJ i
abbrev vX (i : Nat) : E := .var .x i
abbrev lI (n : Int) : E := .lit kJ n
abbrev aI (k j : Nat) (zs : List E) : E := .app kJ k j zs
abbrev aX (k j : Nat) (zs : List E) : E := .app .x k j zs
def rowsOK (ks : List K) (l : RL) : Prop := ∀ r ∈ l, fits ks r
theorem Gw {ks : List K} {c i : Int} (h : rowsOK ks (dc c)) (h0 : 0 <= i) (h1 : i < ((dc c).length : Int)) : ∃ r, (dc c).getD i.toNat [] = r /\ fits ks r /\ r ∈ dc c /\ (dc c).drop i.toNat = r :: (dc c).drop (i + 1).toNat := by
 have hl : i.toNat < (dc c).length := by omega
 refine ⟨(dc c)[i.toNat], by simp [List.getD, hl], h _ (List.getElem_mem hl), List.getElem_mem hl, ?_⟩
 rw [List.drop_eq_getElem_cons hl, show (i + 1).toNat = i.toNat + 1 by omega]
theorem Ts {xs : List Int} (h : xs.length = 2) : ∃ a b, xs = [a, b] := by
 match xs, h with
 | [a, b], _ => exact ⟨a, b, rfl⟩
def gC (T : RL) (i j : Nat) : Int := (T.getD i []).getD j 0
def setC (T : RL) (i j : Nat) (vs : List Int) : RL := T.set i (splR (T.getD i []) j vs)
theorem Bx (T : RL) (i j : Nat) (vs : List Int) : (setC T i j vs).length = T.length := by simp [setC]
theorem JY (T : RL) {i : Nat} (a j : Nat) (vs : List Int) (hi : i < T.length) : (setC T i j vs).getD a [] = if a = i then splR (T.getD i []) j vs else T.getD a [] := by
 unfold setC
 simp only [List.getD_eq_getElem?_getD, List.getElem?_set]
 by_cases h : a = i
 ·subst h; simp [hi]
 ·have h' : ¬ i = a := fun e => h e.symm
  simp [h, h']
theorem Uv {r vs : List Int} {j : Nat} (h : j + vs.length <= r.length) : (splR r j vs).length = r.length := by
 unfold splR; simp; omega
theorem Uw {r vs : List Int} {j : Nat} (h : j + vs.length <= r.length) (b : Nat) : (splR r j vs).getD b 0 = if b < j then r.getD b 0 else if b < j + vs.length then vs.getD (b - j) 0 else r.getD b 0 := by
 unfold splR
 simp only [List.getD_eq_getElem?_getD]
 by_cases h1 : b < j
 ·rw [if_pos h1, List.append_assoc, List.getElem?_append_left (by simp; omega), List.getElem?_take, if_pos h1]
 ·rw [if_neg h1]
  by_cases h2 : b < j + vs.length
  ·rw [if_pos h2, List.append_assoc, List.getElem?_append_right (by simp; omega), List.getElem?_append_left (by simp; omega)]
   congr 2; simp; omega
  ·rw [if_neg h2, List.getElem?_append_right (by simp; omega), List.getElem?_drop]
   congr 2; simp; omega
theorem Tt {T : RL} {i j : Nat} {vs : List Int} (hi : i < T.length) (hj : j + vs.length <= (T.getD i []).length) (a b : Nat) :
 gC (setC T i j vs) a b = if a = i /\ j <= b /\ b < j + vs.length then vs.getD (b - j) 0 else gC T a b := by
 unfold gC
 rw [JY T a j vs hi]
 by_cases h : a = i
 ·subst h
  rw [if_pos rfl, Uw hj]
  by_cases h1 : b < j
  ·rw [if_pos h1, if_neg (by omega)]
  ·rw [if_neg h1]
   by_cases h2 : b < j + vs.length
   ·rw [if_pos h2, if_pos ⟨rfl, by omega, h2⟩]
   ·rw [if_neg h2, if_neg (by omega)]
 ·rw [if_neg h, if_neg (by omega)]
theorem PA {T : RL} {i j : Nat} {v : Int} (hi : i < T.length) (hj : j < (T.getD i []).length) (a b : Nat) :
 gC (setC T i j [v]) a b = if a = i /\ b = j then v else gC T a b := by
 rw [Tt hi (by simp only [List.length_cons, List.length_nil]; omega)]
 by_cases h : a = i /\ b = j
 ·rw [if_pos h, if_pos ⟨h.1, by omega, by simp; omega⟩, h.2]; simp
 ·rw [if_neg h, if_neg]
  simp only [List.length_cons, List.length_nil]; omega
def Wid (T : RL) (n w : Nat) : Prop := T.length = n /\ ∀ i < n, (T.getD i []).length = w
theorem Wid.set {T : RL} {n w i j : Nat} {vs : List Int} (h : Wid T n w) (hi : i < n) (hj : j + vs.length <= w) : Wid (setC T i j vs) n w := by
 obtain ⟨h1, h2⟩ := h
 refine ⟨by rw [Bx, h1], fun a ha => ?_⟩
 rw [JY T a j vs (by omega)]
 split
 ·rw [Uv (by rw [h2 i hi]; exact hj), h2 i hi]
 ·exact h2 a ha
theorem Wid.c {T : RL} {n w i j : Nat} {vs : List Int} (h : Wid T n w) (hi : i < n) (hj : j + vs.length <= w) (a b : Nat) : gC (setC T i j vs) a b = if a = i /\ j <= b /\ b < j + vs.length then vs.getD (b - j) 0 else gC T a b :=
 Tt (by rw [h.1]; exact hi) (by rw [h.2 i hi]; exact hj) a b
theorem Wid.c1 {T : RL} {n w i j : Nat} {v : Int} (h : Wid T n w) (hi : i < n) (hj : j < w) (a b : Nat) : gC (setC T i j [v]) a b = if a = i /\ b = j then v else gC T a b :=
 PA (by rw [h.1]; exact hi) (by rw [h.2 i hi]; exact hj) a b
def headP : List Nat -> Int
 | [] => 0
 | a :: _ => (a : Int) + 1
def lastP (l : List Nat) : Int := headP l.reverse
theorem Bm (l : List Nat) (a : Nat) : lastP (l ++ [a]) = (a : Int) + 1 := by simp [lastP, headP]
theorem Tu : lastP [] = 0 := rfl
theorem C6 (l : List Nat) : l = [] \/ ∃ m a, l = m ++ [a] := by
 rcases List.eq_nil_or_concat l with h | ⟨m, a, h⟩
 ·exact Or.inl h
 ·exact Or.inr ⟨m, a, by rw [h]; simp⟩
def uQ (Q : Nat -> List Nat) (k : Nat) (l : List Nat) : Nat -> List Nat := fun m => if m = k then l else Q m
theorem AL (Q : Nat -> List Nat) (k : Nat) (l : List Nat) : uQ Q k l k = l := if_pos rfl
theorem AU (Q : Nat -> List Nat) {k m : Nat} (l : List Nat) (h : m ≠ k) : uQ Q k l m = Q m := if_neg h
structure Lk (T S : RL) (Q : Nat -> List Nat) (cap : Nat) : Prop where
 tw : Wid T cap 5
 sw : Wid S 2049 3
 qc : ∀ k, ∀ i ∈ Q k, i < cap
 qk : ∀ k, 2049 <= k -> Q k = []
 nd : ∀ k, (Q k).Nodup
 dj : ∀ k m i, i ∈ Q k -> i ∈ Q m -> k = m
 hd : ∀ k < 2049, gC S k 0 = headP (Q k) /\ gC S k 1 = lastP (Q k) /\ gC S k 2 = ((Q k).length : Int)
 ch : ∀ k A i B, Q k = A ++ i :: B -> gC T i 2 = lastP A /\ gC T i 3 = headP B
def dropT (T : RL) (i : Nat) : RL :=
 let p := gC T i 2
 let n := gC T i 3
 let T1 := if 0 < p then setC T (p - 1).toNat 3 [n] else T
 let T2 := if 0 < n then setC T1 (n - 1).toNat 2 [p] else T1
 setC T2 i 0 [0, 0, 0, 0, 0]
def dropS (S : RL) (k : Nat) (p n : Int) : RL :=
 let S1 := if 0 < p then S else setC S k 0 [n]
 let S2 := if 0 < n then S1 else setC S1 k 1 [p]
 setC S2 k 2 [gC S2 k 2 - 1]
theorem Lk.q_lt {T S : RL} {Q : Nat -> List Nat} {cap k i : Nat} (h : Lk T S Q cap) (hi : i ∈ Q k) : k < 2049 := by
 by_cases hk : k < 2049
 ·exact hk
 ·rw [h.qk k (by omega)] at hi; cases hi
theorem Hs {T S : RL} {Q : Nat -> List Nat} {cap k i : Nat} {A B : List Nat} (h : Lk T S Q cap) (hq : Q k = A ++ i :: B) :
 Wid (dropT T i) cap 5 /\ ∀ y j, gC (dropT T i) y j = if y = i /\ j < 5 then 0 else if lastP A = (y : Int) + 1 /\ j = 3 then headP B else if headP B = (y : Int) + 1 /\ j = 2 then lastP A else gC T y j := by
 obtain ⟨c1, c2⟩ := h.ch k A i B hq
 have hic : i < cap := h.qc k i (by rw [hq]; simp)
 have hA : ∀ a ∈ A, a < cap := fun a ha => h.qc k a (by rw [hq]; simp [ha])
 have hB : ∀ a ∈ B, a < cap := fun a ha => h.qc k a (by rw [hq]; simp [ha])
 have hnd := h.nd k
 rw [hq] at hnd
 have hpA : lastP A = 0 \/ ∃ a, a ∈ A /\ lastP A = (a : Int) + 1 := by
  rcases C6 A with rfl | ⟨m, a, rfl⟩
  ·exact Or.inl rfl
  ·exact Or.inr ⟨a, by simp, Bm m a⟩
 have hpB : headP B = 0 \/ ∃ a, a ∈ B /\ headP B = (a : Int) + 1 := by
  cases B with
  | nil => exact Or.inl rfl
  | cons b r => exact Or.inr ⟨b, by simp, rfl⟩
 obtain ⟨T1, e1⟩ : ∃ T1, T1 = if 0 < lastP A then setC T (lastP A - 1).toNat 3 [headP B] else T := ⟨_, rfl⟩
 have s1 : Wid T1 cap 5 /\ ∀ y j, gC T1 y j = if lastP A = (y : Int) + 1 /\ j = 3 then headP B else gC T y j := by
  rw [e1]
  rcases hpA with e | ⟨a, ha, e⟩
  ·rw [e, if_neg (by decide)]
   exact ⟨h.tw, fun y j => by rw [if_neg (by omega)]⟩
  ·rw [e, if_pos (by omega), show ((a : Int) + 1 - 1).toNat = a by omega]
   refine ⟨h.tw.set (hA a ha) (by simp), fun y j => ?_⟩
   rw [h.tw.c1 (hA a ha) (by decide)]
   by_cases hy : y = a /\ j = 3
   ·rw [if_pos hy, if_pos (by omega)]
   ·rw [if_neg hy, if_neg (by omega)]
 obtain ⟨T2, e2⟩ : ∃ T2, T2 = if 0 < headP B then setC T1 (headP B - 1).toNat 2 [lastP A] else T1 := ⟨_, rfl⟩
 have s2 : Wid T2 cap 5 /\ ∀ y j, gC T2 y j = if headP B = (y : Int) + 1 /\ j = 2 then lastP A else gC T1 y j := by
  rw [e2]
  rcases hpB with e | ⟨a, ha, e⟩
  ·rw [e, if_neg (by decide)]
   exact ⟨s1.1, fun y j => by rw [if_neg (by omega)]⟩
  ·rw [e, if_pos (by omega), show ((a : Int) + 1 - 1).toNat = a by omega]
   refine ⟨s1.1.set (hB a ha) (by simp), fun y j => ?_⟩
   rw [s1.1.c1 (hB a ha) (by decide)]
   by_cases hy : y = a /\ j = 2
   ·rw [if_pos hy, if_pos (by omega)]
   ·rw [if_neg hy, if_neg (by omega)]
 have e3 : dropT T i = setC T2 i 0 [0, 0, 0, 0, 0] := by
  unfold dropT
  simp only [c1, c2]
  rw [e2, e1]
 rw [e3]
 refine ⟨s2.1.set hic (by simp), fun y j => ?_⟩
 rw [s2.1.c hic (by simp)]
 by_cases hy : y = i /\ j < 5
 ·rw [if_pos (by simpa using hy), if_pos hy]
  match j, hy.2 with
  | 0, _ | 1, _ | 2, _ | 3, _ | 4, _ => rfl
 ·rw [if_neg (by simpa using hy), if_neg hy, s2.2, s1.2]
  by_cases g1 : headP B = (y : Int) + 1 /\ j = 2
  ·rw [if_pos g1, if_neg (by omega), if_pos g1]
  ·rw [if_neg g1]
   by_cases g2 : lastP A = (y : Int) + 1 /\ j = 3
   ·rw [if_pos g2, if_pos g2]
   ·rw [if_neg g2, if_neg g2, if_neg g1]
theorem QK {S : RL} {k : Nat} {p n : Int} (h : Wid S 2049 3) (hk : k < 2049) (hp : 0 <= p) (hn : 0 <= n) :
 Wid (dropS S k p n) 2049 3 /\ ∀ m j, gC (dropS S k p n) m j = if m = k /\ j = 2 then gC S k 2 - 1 else if m = k /\ j = 1 /\ n = 0 then p else if m = k /\ j = 0 /\ p = 0 then n else gC S m j := by
 obtain ⟨S1, e1⟩ : ∃ S1, S1 = if 0 < p then S else setC S k 0 [n] := ⟨_, rfl⟩
 have s1 : Wid S1 2049 3 /\ ∀ m j, gC S1 m j = if m = k /\ j = 0 /\ p = 0 then n else gC S m j := by
  rw [e1]
  by_cases hp0 : 0 < p
  ·rw [if_pos hp0]
   exact ⟨h, fun m j => by rw [if_neg (by omega)]⟩
  ·rw [if_neg hp0]
   refine ⟨h.set hk (by simp), fun m j => ?_⟩
   rw [h.c1 hk (by decide)]
   by_cases g : m = k /\ j = 0
   ·rw [if_pos g, if_pos (by omega)]
   ·rw [if_neg g, if_neg (by omega)]
 obtain ⟨S2, e2⟩ : ∃ S2, S2 = if 0 < n then S1 else setC S1 k 1 [p] := ⟨_, rfl⟩
 have s2 : Wid S2 2049 3 /\ ∀ m j, gC S2 m j = if m = k /\ j = 1 /\ n = 0 then p else gC S1 m j := by
  rw [e2]
  by_cases hn0 : 0 < n
  ·rw [if_pos hn0]
   exact ⟨s1.1, fun m j => by rw [if_neg (by omega)]⟩
  ·rw [if_neg hn0]
   refine ⟨s1.1.set hk (by simp), fun m j => ?_⟩
   rw [s1.1.c1 hk (by decide)]
   by_cases g : m = k /\ j = 1
   ·rw [if_pos g, if_pos (by omega)]
   ·rw [if_neg g, if_neg (by omega)]
 have e3 : dropS S k p n = setC S2 k 2 [gC S2 k 2 - 1] := by
  unfold dropS
  rw [e2, e1]
 rw [e3]
 refine ⟨s2.1.set hk (by simp), fun m j => ?_⟩
 rw [s2.1.c1 hk (by decide)]
 by_cases g : m = k /\ j = 2
 ·rw [if_pos g, if_pos g, s2.2, if_neg (by omega), s1.2, if_neg (by omega)]
 ·rw [if_neg g, if_neg g, s2.2, s1.2]
theorem BV (l : List Nat) : 0 <= headP l := by cases l <;> simp [headP]; omega
theorem AI (l : List Nat) : 0 <= lastP l := BV _
theorem It {l : List Nat} {y : Nat} (h : headP l = (y : Int) + 1) : y ∈ l := by
 cases l with
 | nil => simp [headP] at h; omega
 | cons a r => simp only [headP] at h; have : a = y := by omega
               subst this; simp
theorem BN {l : List Nat} {y : Nat} (h : lastP l = (y : Int) + 1) : y ∈ l := by
 have := It h
 simpa using this
theorem FT {A : List Nat} (B : List Nat) (h : A ≠ []) : headP (A ++ B) = headP A := by
 cases A with
 | nil => exact absurd rfl h
 | cons a r => rfl
theorem Bu (A : List Nat) {B : List Nat} (h : B ≠ []) : lastP (A ++ B) = lastP B := by
 rcases C6 B with rfl | ⟨m, a, rfl⟩
 ·exact absurd rfl h
 ·rw [<- List.append_assoc, Bm, Bm]
theorem D0 (i : Nat) {B : List Nat} (h : B ≠ []) : lastP (i :: B) = lastP B := Bu [i] h
theorem KT {l : List Nat} : headP l = 0 ↔ l = [] := by
 cases l with
 | nil => simp [headP]
 | cons a r => simp [headP]; omega
theorem Ht {l : List Nat} : lastP l = 0 ↔ l = [] := by
 unfold lastP; rw [KT]; simp
theorem Lk.drop {T S : RL} {Q : Nat -> List Nat} {cap k i : Nat} {A B : List Nat} (h : Lk T S Q cap) (hq : Q k = A ++ i :: B) :
 Lk (dropT T i) (dropS S k (gC T i 2) (gC T i 3)) (uQ Q k (A ++ B)) cap := by
 obtain ⟨t1, t2⟩ := Hs h hq
 obtain ⟨c1, c2⟩ := h.ch k A i B hq
 have hk := h.q_lt (k := k) (i := i) (by rw [hq]; simp)
 obtain ⟨s1, s2⟩ := QK h.sw hk (p := gC T i 2) (n := gC T i 3) (by rw [c1]; exact AI _) (by rw [c2]; exact BV _)
 have hnd := h.nd k
 rw [hq] at hnd
 obtain ⟨n1, n2, n3⟩ := List.nodup_append.1 hnd
 obtain ⟨n4, n5⟩ := List.nodup_cons.1 n2
 have hiA : i ∉ A := fun hA => n3 i hA i (by simp) rfl
 have hAB : ∀ x, x ∈ A -> x ∈ B -> False := fun x hA hB => n3 x hA x (by simp [hB]) rfl
 have q2 : ∀ y, y ≠ i -> gC (dropT T i) y 2 = if headP B = (y : Int) + 1 then lastP A else gC T y 2 := fun y hy => by rw [t2]; simp [hy]
 have q3 : ∀ y, y ≠ i -> gC (dropT T i) y 3 = if lastP A = (y : Int) + 1 then headP B else gC T y 3 := fun y hy => by rw [t2]; simp [hy]
 have sub : ∀ m x, x ∈ uQ Q k (A ++ B) m -> x ∈ Q m /\ x ≠ i := fun m x hx => by
  by_cases hm : m = k
  ·subst hm
   rw [AL] at hx
   rcases List.mem_append.1 hx with hx | hx
   ·exact ⟨by rw [hq]; simp [hx], fun e => hiA (e ▸ hx)⟩
   ·exact ⟨by rw [hq]; simp [hx], fun e => n4 (e ▸ hx)⟩
  ·rw [AU Q _ hm] at hx
   exact ⟨hx, fun e => hm (h.dj m k i (e ▸ hx) (by rw [hq]; simp))⟩
 refine ⟨t1, s1, fun m x hx => h.qc m x (sub m x hx).1, fun m hm => ?_, fun m => ?_, fun m m' x h1 h2 => h.dj _ _ x (sub m x h1).1 (sub m' x h2).1, fun m hm => ?_, fun m A' y B' hy => ?_⟩
 ·rw [AU Q _ (by omega)]; exact h.qk m hm
 ·by_cases hm : m = k
  ·subst hm
   rw [AL]
   exact List.Nodup.sublist (List.Sublist.append (List.Sublist.refl A) (List.sublist_cons_self i B)) hnd
  ·rw [AU Q _ hm]; exact h.nd m
 ·by_cases hmk : m = k
  ·subst hmk
   obtain ⟨d0, d1, d2⟩ := h.hd m hm
   rw [AL, s2, s2, s2]
   rw [hq] at d0 d1 d2
   refine ⟨?_, ?_, ?_⟩
   ·rw [if_neg (by omega), if_neg (by omega)]
    by_cases hA : A = []
    ·subst hA
     rw [if_pos ⟨rfl, rfl, by rw [c1]; rfl⟩, c2]; rfl
    ·rw [if_neg (fun g => hA (Ht.1 (by rw [<- c1]; exact g.2.2))), d0, FT _ hA, FT _ hA]
   ·rw [if_neg (by omega)]
    by_cases hB : B = []
    ·subst hB
     rw [if_pos ⟨rfl, rfl, by rw [c2]; rfl⟩, c1, List.append_nil]
    ·rw [if_neg (fun g => hB (KT.1 (by rw [<- c2]; exact g.2.2))), if_neg (by omega), d1, Bu _ (by simp), Bu _ hB, D0 _ hB]
   ·rw [if_pos ⟨rfl, rfl⟩, d2]; simp; omega
  ·rw [AU Q _ hmk, s2, s2, s2]
   simp only [hmk, false_and, if_false]
   exact h.hd m hm
 ·by_cases hm : m = k
  ·subst hm
   rw [AL] at hy
   have alpha : ∀ C, B = C ++ y :: B' -> A' = A ++ C -> gC (dropT T i) y 2 = lastP A' /\ gC (dropT T i) y 3 = headP B' := fun C e1 e2 => by
    have hyB : y ∈ B := by rw [e1]; simp
    have hyi : y ≠ i := fun e => n4 (e ▸ hyB)
    obtain ⟨o1, o2⟩ := h.ch m (A ++ i :: C) y B' (by rw [hq, e1]; simp)
    rw [q2 y hyi, q3 y hyi, if_neg (c := lastP A = (y : Int) + 1) (fun g => hAB y (BN g) hyB)]
    refine ⟨?_, o2⟩
    cases C with
    | nil => rw [if_pos (by rw [e1]; rfl), e2, List.append_nil]
    | cons c C' =>
      have hcy : c ≠ y := by
       intro e
       rw [e1, e] at n5
       simp at n5
      rw [if_neg (fun g => hcy (by rw [e1] at g; simp only [List.cons_append, headP] at g; omega)), o1, e2, Bu _ (by simp), Bu _ (by simp), D0 _ (by simp)]
   rcases List.append_eq_append_iff.1 hy with ⟨C, e1, e2⟩ | ⟨C, e1, e2⟩
   ·exact alpha C e2 e1
   ·cases C with
    | nil => exact alpha [] (by simpa using e2.symm) (by simpa using e1.symm)
    | cons c C' =>
      simp only [List.cons_append, List.cons.injEq] at e2
      obtain ⟨rfl, e2⟩ := e2
      have hyA : y ∈ A := by rw [e1]; simp
      have hyi : y ≠ i := fun e => hiA (e ▸ hyA)
      obtain ⟨o1, o2⟩ := h.ch m A' y (C' ++ i :: B) (by rw [hq, e1]; simp)
      rw [q2 y hyi, q3 y hyi, if_neg (c := headP B = (y : Int) + 1) (fun g => hAB y hyA (It g))]
      refine ⟨o1, ?_⟩
      cases C' with
      | nil => rw [if_pos (by rw [e1, Bm]), e2]; rfl
      | cons c' C'' =>
        have hl : lastP A ≠ (y : Int) + 1 := fun g => by
         rw [e1, Bu _ (by simp), D0 _ (by simp)] at g
         have hm' := BN g
         rw [e1] at n1
         have := (List.nodup_append.1 n1).2.1
         exact (List.nodup_cons.1 this).1 hm'
        rw [if_neg hl, o2, e2]; rfl
  ·rw [AU Q _ hm] at hy
   have hyQ : y ∈ Q m := by rw [hy]; simp
   have hne : ∀ x, x ∈ Q m -> x ∈ Q k -> False := fun x h1 h2 => hm (h.dj m k x h1 h2)
   have hyi : y ≠ i := fun e => hne y hyQ (by rw [hq, e]; simp)
   rw [q2 y hyi, q3 y hyi, if_neg (c := headP B = (y : Int) + 1) (fun g => hne y hyQ (by rw [hq]; simp [It g])), if_neg (c := lastP A = (y : Int) + 1) (fun g => hne y hyQ (by rw [hq]; simp [BN g]))]
   exact h.ch m A' y B' hy
def putT (T : RL) (i : Nat) (lv ix d la : Int) : RL :=
 let T1 := setC (setC T i 0 [lv, ix]) i 4 [d]
 let T2 := setC (setC T1 i 2 [la]) i 3 [0]
 if 0 < la then setC T2 (la - 1).toNat 3 [(i : Int) + 1] else T2
def putS (S : RL) (k i : Nat) : RL :=
 let S1 := if 0 < gC S k 1 then S else setC S k 0 [(i : Int) + 1]
 let S2 := setC S1 k 1 [(i : Int) + 1]
 setC S2 k 2 [gC S2 k 2 + 1]
theorem MF {T : RL} {cap i : Nat} {lv ix d la : Int} (h : Wid T cap 5) (hi : i < cap) (hla : la = 0 \/ ∃ a : Nat, a < cap /\ a ≠ i /\ la = (a : Int) + 1) :
 Wid (putT T i lv ix d la) cap 5 /\ ∀ y j, gC (putT T i lv ix d la) y j = if y = i /\ j < 5 then [lv, ix, la, 0, d].getD j 0 else if la = (y : Int) + 1 /\ j = 3 then (i : Int) + 1 else gC T y j := by
 have w1 := h.set (vs := [lv, ix]) (j := 0) hi (by simp)
 have w2 := w1.set (vs := [d]) (j := 4) hi (by simp)
 have w3 := w2.set (vs := [la]) (j := 2) hi (by simp)
 have w4 := w3.set (vs := [0]) (j := 3) hi (by simp)
 have g4 : ∀ y j, gC (setC (setC (setC (setC T i 0 [lv, ix]) i 4 [d]) i 2 [la]) i 3 [0]) y j = if y = i /\ j < 5 then [lv, ix, la, 0, d].getD j 0 else gC T y j := fun y j => by
  rw [w3.c1 hi (by decide), w2.c1 hi (by decide), w1.c1 hi (by decide), h.c hi (by simp)]
  by_cases hy : y = i
  ·subst hy
   match j with
   | 0 | 1 | 2 | 3 | 4 => simp
   | j + 5 =>
     rw [if_neg (by omega), if_neg (by omega), if_neg (by omega), if_neg (by simp), if_neg (by omega)]
  ·simp [hy]
 unfold putT
 simp only
 rcases hla with rfl | ⟨a, ha, hai, rfl⟩
 ·rw [if_neg (by decide)]
  refine ⟨w4, fun y j => ?_⟩
  rw [g4, if_neg (c := (0 : Int) = (y : Int) + 1 /\ j = 3) (by omega)]
 ·rw [if_pos (by omega), show ((a : Int) + 1 - 1).toNat = a by omega]
  refine ⟨w4.set ha (by simp), fun y j => ?_⟩
  rw [w4.c1 ha (by decide), g4]
  by_cases hy : y = a /\ j = 3
  ·rw [if_pos hy, if_neg (by omega), if_pos (by omega)]
  ·rw [if_neg hy]
   by_cases hz : y = i /\ j < 5
   ·rw [if_pos hz, if_pos hz]
   ·rw [if_neg hz, if_neg hz, if_neg (by omega)]
theorem Tv {S : RL} {k i : Nat} (h : Wid S 2049 3) (hk : k < 2049) (hla : 0 <= gC S k 1) :
 Wid (putS S k i) 2049 3 /\ ∀ m j, gC (putS S k i) m j = if m = k /\ j = 2 then gC S k 2 + 1 else if m = k /\ j = 1 then (i : Int) + 1 else if m = k /\ j = 0 /\ gC S k 1 = 0 then (i : Int) + 1 else gC S m j := by
 obtain ⟨S1, e1⟩ : ∃ S1, S1 = if 0 < gC S k 1 then S else setC S k 0 [(i : Int) + 1] := ⟨_, rfl⟩
 have s1 : Wid S1 2049 3 /\ ∀ m j, gC S1 m j = if m = k /\ j = 0 /\ gC S k 1 = 0 then (i : Int) + 1 else gC S m j := by
  rw [e1]
  by_cases hp0 : 0 < gC S k 1
  ·rw [if_pos hp0]
   exact ⟨h, fun m j => by rw [if_neg (by omega)]⟩
  ·rw [if_neg hp0]
   refine ⟨h.set hk (by simp), fun m j => ?_⟩
   rw [h.c1 hk (by decide)]
   by_cases g : m = k /\ j = 0
   ·rw [if_pos g, if_pos (by omega)]
   ·rw [if_neg g, if_neg (by omega)]
 have w2 := s1.1.set (vs := [(i : Int) + 1]) (j := 1) hk (by simp)
 have e3 : putS S k i = setC (setC S1 k 1 [(i : Int) + 1]) k 2 [gC (setC S1 k 1 [(i : Int) + 1]) k 2 + 1] := by
  unfold putS
  rw [e1]
 rw [e3]
 refine ⟨w2.set hk (by simp), fun m j => ?_⟩
 rw [w2.c1 hk (by decide), s1.1.c1 hk (by decide), s1.1.c1 hk (by decide), s1.2, s1.2]
 by_cases g : m = k /\ j = 2
 ·rw [if_pos g, if_pos g, if_neg (by omega), if_neg (by omega)]
 ·rw [if_neg g, if_neg g]
theorem Lk.put {T S : RL} {Q : Nat -> List Nat} {cap k i : Nat} {lv ix d : Int} (h : Lk T S Q cap) (hk : k < 2049) (hi : i < cap) (hn : ∀ m, i ∉ Q m) :
 Lk (putT T i lv ix d (gC S k 1)) (putS S k i) (uQ Q k (Q k ++ [i])) cap := by
 obtain ⟨d0, d1, d2⟩ := h.hd k hk
 have hla : gC S k 1 = 0 \/ ∃ a : Nat, a < cap /\ a ≠ i /\ gC S k 1 = (a : Int) + 1 := by
  rw [d1]
  rcases C6 (Q k) with e | ⟨m, a, e⟩
  ·exact Or.inl (by rw [e]; rfl)
  ·have ha : a ∈ Q k := by rw [e]; simp
   exact Or.inr ⟨a, h.qc k a ha, fun x => hn k (x ▸ ha), by rw [e, Bm]⟩
 obtain ⟨t1, t2⟩ := MF (lv := lv) (ix := ix) (d := d) h.tw hi hla
 obtain ⟨s1, s2⟩ := Tv (i := i) h.sw hk (by rw [d1]; exact AI _)
 have sub : ∀ m x, x ∈ uQ Q k (Q k ++ [i]) m -> x ∈ Q m \/ (x = i /\ m = k) := fun m x hx => by
  by_cases hm : m = k
  ·subst hm
   rw [AL] at hx
   rcases List.mem_append.1 hx with hx | hx
   ·exact Or.inl hx
   ·exact Or.inr ⟨by simpa using hx, rfl⟩
  ·rw [AU Q _ hm] at hx; exact Or.inl hx
 refine ⟨t1, s1, fun m x hx => ?_, fun m hm => ?_, fun m => ?_, fun m m' x h1 h2 => ?_, fun m hm => ?_, fun m A' y B' hy => ?_⟩
 ·rcases sub m x hx with h1 | ⟨rfl, _⟩
  ·exact h.qc m x h1
  ·exact hi
 ·rw [AU Q _ (by omega)]; exact h.qk m hm
 ·by_cases hm : m = k
  ·subst hm
   rw [AL]
   refine List.nodup_append.2 ⟨h.nd m, by simp, fun a ha b hb e => ?_⟩
   have : b = i := by simpa using hb
   exact hn m (by rw [<- this, <- e]; exact ha)
  ·rw [AU Q _ hm]; exact h.nd m
 ·rcases sub m x h1 with g1 | ⟨e1, g1⟩
  ·rcases sub m' x h2 with g2 | ⟨e2, g2⟩
   ·exact h.dj m m' x g1 g2
   ·exact absurd (e2 ▸ g1) (hn m)
  ·rcases sub m' x h2 with g2 | ⟨e2, g2⟩
   ·exact absurd (e1 ▸ g2) (hn m')
   ·rw [g1, g2]
 ·by_cases hmk : m = k
  ·subst hmk
   rw [AL, s2, s2, s2]
   refine ⟨?_, ?_, ?_⟩
   ·rw [if_neg (by omega), if_neg (by omega)]
    by_cases hA : Q m = []
    ·rw [if_pos ⟨rfl, rfl, by rw [d1, hA]; rfl⟩, hA]; rfl
    ·rw [if_neg (fun g => hA (Ht.1 (by rw [<- d1]; exact g.2.2))), d0, FT _ hA]
   ·rw [if_neg (by omega), if_pos ⟨rfl, rfl⟩, Bm]
   ·rw [if_pos ⟨rfl, rfl⟩, d2]; simp
  ·rw [AU Q _ hmk, s2, s2, s2]
   simp only [hmk, false_and, if_false]
   exact h.hd m hm
 ·have q2 : y ≠ i -> gC (putT T i lv ix d (gC S k 1)) y 2 = gC T y 2 := fun hyi => by rw [t2]; simp [hyi]
  have q3 : y ≠ i -> gC (putT T i lv ix d (gC S k 1)) y 3 = if gC S k 1 = (y : Int) + 1 then (i : Int) + 1 else gC T y 3 := fun hyi => by rw [t2]; simp [hyi]
  by_cases hm : m = k
  ·subst hm
   rw [AL] at hy
   rcases C6 B' with rfl | ⟨B'', z, rfl⟩
   ·have e := List.append_inj_right' hy rfl
    have e' := List.append_inj_left' hy rfl
    have : i = y := by simpa using e
    subst this
    rw [t2, t2, if_pos ⟨rfl, by decide⟩, if_pos ⟨rfl, by decide⟩, <- e', d1]
    exact ⟨rfl, rfl⟩
   ·have hy' : Q m ++ [i] = (A' ++ y :: B'') ++ [z] := by rw [hy]; simp
    have e' := List.append_inj_left' hy' rfl
    have e : i = z := by simpa using List.append_inj_right' hy' rfl
    subst e
    have hyQ : y ∈ Q m := by rw [e']; simp
    have hyi : y ≠ i := fun e => hn m (e ▸ hyQ)
    obtain ⟨o1, o2⟩ := h.ch m A' y B'' e'
    rw [q2 hyi, q3 hyi, d1]
    refine ⟨o1, ?_⟩
    cases B'' with
    | nil => rw [if_pos (by rw [e', Bm])]; rfl
    | cons c C =>
      have hl : lastP (Q m) ≠ (y : Int) + 1 := fun g => by
       rw [e', Bu _ (by simp), D0 _ (by simp)] at g
       have hm' := BN g
       have := h.nd m
       rw [e'] at this
       exact (List.nodup_cons.1 (List.nodup_append.1 this).2.1).1 hm'
      rw [if_neg hl, o2]; rfl
  ·rw [AU Q _ hm] at hy
   have hyQ : y ∈ Q m := by rw [hy]; simp
   have hyi : y ≠ i := fun e => hn m (e ▸ hyQ)
   rw [q2 hyi, q3 hyi, if_neg (fun g => hm (h.dj m k y hyQ (BN (by rw [<- d1]; exact g))))]
   exact h.ch m A' y B' hy
def joinT (T : RL) (f bl : Int) : RL := setC (if 0 < bl then setC T (bl - 1).toNat 3 [f] else T) (f - 1).toNat 2 [bl]
def joinS (S : RL) (k : Nat) : RL :=
 let S1 := if 0 < gC S 2048 1 then S else setC S 2048 0 [gC S k 0]
 let S2 := setC S1 2048 1 [gC S k 1]
 setC (setC S2 2048 2 [gC S2 2048 2 + gC S k 2]) k 0 [0, 0, 0]
theorem Lk.join {T S : RL} {Q : Nat -> List Nat} {cap k : Nat} (h : Lk T S Q cap) (hk : k < 2048) (hne : Q k ≠ []) :
 Lk (joinT T (gC S k 0) (gC S 2048 1)) (joinS S k) (uQ (uQ Q 2048 (Q 2048 ++ Q k)) k []) cap := by
 obtain ⟨d0, d1, d2⟩ := h.hd k (by omega)
 obtain ⟨b0, b1, b2⟩ := h.hd 2048 (by omega)
 obtain ⟨f, F, hF⟩ : ∃ f F, Q k = f :: F := by
  cases hq : Q k with
  | nil => exact absurd hq hne
  | cons f F => exact ⟨f, F, rfl⟩
 have ef : gC S k 0 = (f : Int) + 1 := by rw [d0, hF]; rfl
 have hfk : f ∈ Q k := by rw [hF]; simp
 have hfc := h.qc k f hfk
 have dis : ∀ x, x ∈ Q k -> x ∈ Q 2048 -> False := fun x h1 h2 => by have := h.dj _ _ x h1 h2; omega
 have t : Wid (joinT T (gC S k 0) (gC S 2048 1)) cap 5 /\ ∀ y j, gC (joinT T (gC S k 0) (gC S 2048 1)) y j = if y = f /\ j = 2 then lastP (Q 2048) else if lastP (Q 2048) = (y : Int) + 1 /\ j = 3 then (f : Int) + 1 else gC T y j := by
  unfold joinT
  rw [ef, b1, show ((f : Int) + 1 - 1).toNat = f by omega]
  rcases C6 (Q 2048) with e | ⟨m, a, e⟩
  ·rw [e, Tu, if_neg (by decide)]
   refine ⟨h.tw.set hfc (by simp), fun y j => ?_⟩
   rw [h.tw.c1 hfc (by decide), if_neg (c := (0 : Int) = (y : Int) + 1 /\ j = 3) (by omega)]
  ·have ha : a ∈ Q 2048 := by rw [e]; simp
   rw [e, Bm, if_pos (by omega), show ((a : Int) + 1 - 1).toNat = a by omega]
   have w := h.tw.set (vs := [(f : Int) + 1]) (j := 3) (h.qc _ a ha) (by simp)
   refine ⟨w.set hfc (by simp), fun y j => ?_⟩
   rw [w.c1 hfc (by decide), h.tw.c1 (h.qc _ a ha) (by decide)]
   by_cases g : y = a /\ j = 3
   ·rw [if_neg (c := y = f /\ j = 2) (by omega), if_pos g, if_neg (c := y = f /\ j = 2) (by omega), if_pos (by omega)]
   ·rw [if_neg (c := y = a /\ j = 3) g, if_neg (c := (a : Int) + 1 = (y : Int) + 1 /\ j = 3) (by omega)]
 obtain ⟨t1, t2⟩ := t
 have sS : Wid (joinS S k) 2049 3 /\ ∀ m j, gC (joinS S k) m j = if m = k /\ j < 3 then 0 else if m = 2048 /\ j = 2 then gC S 2048 2 + gC S k 2 else if m = 2048 /\ j = 1 then gC S k 1 else if m = 2048 /\ j = 0 /\ gC S 2048 1 = 0 then gC S k 0 else gC S m j := by
  obtain ⟨S1, e1⟩ : ∃ S1, S1 = if 0 < gC S 2048 1 then S else setC S 2048 0 [gC S k 0] := ⟨_, rfl⟩
  have s1 : Wid S1 2049 3 /\ ∀ m j, gC S1 m j = if m = 2048 /\ j = 0 /\ gC S 2048 1 = 0 then gC S k 0 else gC S m j := by
   rw [e1]
   have hla : 0 <= gC S 2048 1 := by rw [b1]; exact AI _
   by_cases hp0 : 0 < gC S 2048 1
   ·rw [if_pos hp0]
    exact ⟨h.sw, fun m j => by rw [if_neg (by omega)]⟩
   ·rw [if_neg hp0]
    refine ⟨h.sw.set (by omega) (by simp), fun m j => ?_⟩
    rw [h.sw.c1 (by omega) (by decide)]
    by_cases g : m = 2048 /\ j = 0
    ·rw [if_pos g, if_pos (by omega)]
    ·rw [if_neg g, if_neg (by omega)]
  have w2 := s1.1.set (i := 2048) (vs := [gC S k 1]) (j := 1) (by omega) (by simp)
  have w3 := w2.set (i := 2048) (vs := [gC (setC S1 2048 1 [gC S k 1]) 2048 2 + gC S k 2]) (j := 2) (by omega) (by simp)
  have e3 : joinS S k = setC (setC (setC S1 2048 1 [gC S k 1]) 2048 2 [gC (setC S1 2048 1 [gC S k 1]) 2048 2 + gC S k 2]) k 0 [0, 0, 0] := by
   unfold joinS
   rw [e1]
  rw [e3]
  refine ⟨w3.set (by omega) (by simp), fun m j => ?_⟩
  rw [w3.c (by omega) (by simp), w2.c1 (by omega) (by decide), s1.1.c1 (by omega) (by decide), s1.1.c1 (by omega) (by decide), s1.2, s1.2]
  by_cases g : m = k /\ j < 3
  ·rw [if_pos (by simpa using g), if_pos g]
   match j, g.2 with
   | 0, _ | 1, _ | 2, _ => rfl
  ·rw [if_neg (by simpa using g), if_neg g]
   by_cases g2 : m = 2048 /\ j = 2
   ·rw [if_pos g2, if_pos g2, if_neg (by omega), if_neg (by omega)]
   ·rw [if_neg g2, if_neg g2]
 obtain ⟨s1, s2⟩ := sS
 have hU : ∀ m, uQ (uQ Q 2048 (Q 2048 ++ Q k)) k [] m = if m = k then [] else if m = 2048 then Q 2048 ++ Q k else Q m := fun m => rfl
 have sub : ∀ m x, x ∈ uQ (uQ Q 2048 (Q 2048 ++ Q k)) k [] m -> m ≠ k /\ ((m = 2048 /\ (x ∈ Q 2048 \/ x ∈ Q k)) \/ (m ≠ 2048 /\ x ∈ Q m)) := fun m x hx => by
  rw [hU] at hx
  by_cases hm : m = k
  ·rw [if_pos hm] at hx; cases hx
  ·rw [if_neg hm] at hx
   refine ⟨hm, ?_⟩
   by_cases hm' : m = 2048
   ·rw [if_pos hm'] at hx
    exact Or.inl ⟨hm', List.mem_append.1 hx⟩
   ·rw [if_neg hm'] at hx; exact Or.inr ⟨hm', hx⟩
 have ndB : (Q 2048 ++ Q k).Nodup := List.nodup_append.2 ⟨h.nd _, h.nd _, fun a ha b hb e => dis b hb (e ▸ ha)⟩
 refine ⟨t1, s1, fun m x hx => ?_, fun m hm => ?_, fun m => ?_, fun m m' x h1 h2 => ?_, fun m hm => ?_, fun m A' y B' hy => ?_⟩
 ·rcases (sub m x hx).2 with ⟨_, h1 | h1⟩ | ⟨_, h1⟩ <;> exact h.qc _ x h1
 ·rw [hU, if_neg (by omega), if_neg (by omega)]; exact h.qk m hm
 ·rw [hU]
  by_cases hm : m = k
  ·rw [if_pos hm]; exact List.nodup_nil
  ·rw [if_neg hm]
   by_cases hm' : m = 2048
   ·rw [if_pos hm']; exact ndB
   ·rw [if_neg hm']; exact h.nd m
 ·obtain ⟨n1, g1⟩ := sub m x h1
  obtain ⟨n2, g2⟩ := sub m' x h2
  rcases g1 with ⟨e1, g1 | g1⟩ | ⟨e1, g1⟩ <;> rcases g2 with ⟨e2, g2 | g2⟩ | ⟨e2, g2⟩
  ·rw [e1, e2]
  ·rw [e1, e2]
  ·exact absurd (h.dj _ _ x g1 g2).symm e2
  ·rw [e1, e2]
  ·rw [e1, e2]
  ·exact absurd (h.dj _ _ x g1 g2).symm n2
  ·exact absurd (h.dj _ _ x g1 g2) e1
  ·exact absurd (h.dj _ _ x g1 g2) n1
  ·exact h.dj _ _ x g1 g2
 ·rw [hU, s2, s2, s2]
  by_cases hmk : m = k
  ·rw [if_pos hmk, if_pos ⟨hmk, by decide⟩, if_pos ⟨hmk, by decide⟩, if_pos ⟨hmk, by decide⟩]
   exact ⟨rfl, rfl, rfl⟩
  ·simp only [hmk, false_and, if_false]
   by_cases hm' : m = 2048
   ·subst hm'
    simp only [true_and, if_true]
    refine ⟨?_, ?_, ?_⟩
    ·rw [if_neg (by omega), if_neg (by omega)]
     by_cases hA : Q 2048 = []
     ·rw [if_pos (by rw [b1, hA]; rfl), d0, hA]; rfl
     ·rw [if_neg (fun g => hA (Ht.1 (by rw [<- b1]; exact g))), b0, FT _ hA]
    ·rw [if_neg (by omega), d1, Bu _ hne]
    ·rw [b2, d2]; simp
   ·simp only [hm', false_and, if_false]
    exact h.hd m hm
 ·rw [hU] at hy
  by_cases hm : m = k
  ·rw [if_pos hm] at hy; simp at hy
  ·rw [if_neg hm] at hy
   have q2 : gC (joinT T (gC S k 0) (gC S 2048 1)) y 2 = if y = f then lastP (Q 2048) else gC T y 2 := by rw [t2]; simp
   have q3 : gC (joinT T (gC S k 0) (gC S 2048 1)) y 3 = if lastP (Q 2048) = (y : Int) + 1 then (f : Int) + 1 else gC T y 3 := by rw [t2]; simp
   rw [q2, q3]
   by_cases hm' : m = 2048
   ·rw [if_pos hm'] at hy
    have inK : ∀ C, Q k = C ++ y :: B' -> A' = Q 2048 ++ C -> (if y = f then lastP (Q 2048) else gC T y 2) = lastP A' /\ (if lastP (Q 2048) = (y : Int) + 1 then (f : Int) + 1 else gC T y 3) = headP B' := fun C e1 e2 => by
     have hyk : y ∈ Q k := by rw [e1]; simp
     obtain ⟨o1, o2⟩ := h.ch k C y B' e1
     rw [if_neg (c := lastP (Q 2048) = (y : Int) + 1) (fun g => dis y hyk (BN g))]
     refine ⟨?_, o2⟩
     cases C with
     | nil =>
       have : f = y := by rw [hF] at e1; simpa using (List.cons.inj e1).1
       rw [if_pos this.symm, e2, List.append_nil]
     | cons c C' =>
       have hfc : f = c := by rw [hF] at e1; exact (List.cons.inj e1).1
       have hne' : ¬ y = f := fun e => by
        have := h.nd k
        rw [e1, <- hfc, <- e] at this
        simp at this
       rw [if_neg hne', o1, e2, Bu _ (by simp)]
    rcases List.append_eq_append_iff.1 hy with ⟨C, e1, e2⟩ | ⟨C, e1, e2⟩
    ·exact inK C e2 e1
    ·cases C with
     | nil => exact inK [] (by simpa using e2.symm) (by simpa using e1.symm)
     | cons c C' =>
       simp only [List.cons_append, List.cons.injEq] at e2
       obtain ⟨rfl, e2⟩ := e2
       have hyB : y ∈ Q 2048 := by rw [e1]; simp
       obtain ⟨o1, o2⟩ := h.ch 2048 A' y C' e1
       have hyf : ¬ y = f := fun e => dis f hfk (e ▸ hyB)
       rw [if_neg hyf]
       refine ⟨o1, ?_⟩
       cases C' with
       | nil => rw [if_pos (by rw [e1, Bm]), e2, List.nil_append, hF]; rfl
       | cons c' C'' =>
         have hl : lastP (Q 2048) ≠ (y : Int) + 1 := fun g => by
          rw [e1, Bu _ (by simp), D0 _ (by simp)] at g
          have hm' := BN g
          have := h.nd 2048
          rw [e1] at this
          exact (List.nodup_cons.1 (List.nodup_append.1 this).2.1).1 hm'
         rw [if_neg hl, o2, e2]; rfl
   ·rw [if_neg hm'] at hy
    have hyQ : y ∈ Q m := by rw [hy]; simp
    rw [if_neg (c := y = f) (fun e => hm (h.dj m k y hyQ (e ▸ hfk))), if_neg (c := lastP (Q 2048) = (y : Int) + 1) (fun g => hm' (h.dj m 2048 y hyQ (BN g)))]
    exact h.ch m A' y B' hy
def G0 : Glob := fun _ _ => none
def i64 : Sh := .sc kJ
def bS : Sh := .sc .b
def k5 : List K := [.i .i64, .i .i64, .i .i64, .i .i64, .i .i64]
def k3 : List K := [.i .i64, .i .i64, .i .i64]
def ltm : Sh := .lst 106 (Row.ofKs k5) true
def wsh : Sh := .seg 102 k3 [i64, i64, i64, i64, ltm]
def wob : Ob := { j := 0, ty := 102, tl := some k3, cs := [.sc .x, i64, i64, i64, i64, ltm] }
def pin : Sh := .pin 0 5 3
def z0 : Nat -> List Int -> Int := fun _ _ => 0
def T0 : List Int -> Prop := fun _ => True
def blk (k t : Int) : Int := t / 256 ^ k.toNat
def fn71 (_ : Nat) (xs : List Int) : Int := blk (env xs 0) (env xs 1)
def e71 : Ent := ⟨71, 91, [i64, i64], [], [], i64, fn71, fun xs => 0 <= env xs 0 /\ env xs 0 <= 4⟩
def T5 (xs : List Int) : RL := dc (env xs 5)
def S3 (xs : List Int) : RL := dc (env xs 0)
def nowW (xs : List Int) : Int := env xs 1
def locI (now : Int) (T : RL) (i : Nat) : Int := if gC T i 4 <= now then 2048 else gC T i 0 * 512 + gC T i 1
def ofOK (now : Int) (T : RL) (i : Nat) : Prop := now < gC T i 4 -> 0 <= gC T i 0 /\ gC T i 0 < 4 /\ 0 <= gC T i 1 /\ gC T i 1 < 512
structure WL (S T le : Int) (Q : Nat -> List Nat) : Prop where
 rS : rowsOK k3 (dc S)
 rT : rowsOK k5 (dc T)
 ct : 0 < (dc T).length /\ (dc T).length <= 4096
 lk : Lk (dc T) (dc S) Q (dc T).length
 le : 0 <= le /\ le <= 4096
def lenT (xs : List Int) : Int := ((dc (env xs 5)).length : Int)
def e46 : Ent := ⟨46, 56, [wsh], [], [0, 1], .lt .b 0, z0, fun xs => 0 < lenT xs /\ lenT xs <= 4096⟩
def e47 : Ent := ⟨47, 57, [wsh, i64], [], [0, 1], bS, fun _ xs => b2i (decide (0 <= env xs 6) && decide (env xs 6 < lenT xs)), fun xs => 0 < lenT xs /\ lenT xs <= 4096⟩
def idW (xs : List Int) : Nat := (env xs 6).toNat
def pre69 (xs : List Int) : Prop := rowsOK k5 (T5 xs) /\ (T5 xs).length <= 4096 /\ 0 <= env xs 6 /\ env xs 6 < lenT xs /\ ofOK (nowW xs) (T5 xs) (idW xs)
def e69 : Ent := ⟨69, 89, [wsh, i64], [], [0, 1], pin, fun _ xs => locI (nowW xs) (T5 xs) (idW xs), pre69⟩
def lvF (now d : Int) : Int := if blk 1 d <= blk 1 now + 1 then 0 else if blk 2 d <= blk 2 now + 1 then 1 else if blk 3 d <= blk 3 now + 1 then 2 else 3
def fn70 (j : Nat) (xs : List Int) : Int := match j with
 | 0 => lvF (nowW xs) (env xs 6)
 | _ => blk (lvF (nowW xs) (env xs 6)) (env xs 6) % 512
def pre70 (xs : List Int) : Prop := 0 <= nowW xs /\ nowW xs <= 1099511627776 /\ 0 <= env xs 6 /\ env xs 6 <= 1101659111424
def e70 : Ent := ⟨70, 90, [wsh, i64], [], [0, 1], .agg [i64, i64], fn70, pre70⟩
def fn48 (j : Nat) (xs : List Int) : Int := match j with
 | 0 => cd (dropS (S3 xs) (locI (nowW xs) (T5 xs) (idW xs)).toNat (gC (T5 xs) (idW xs) 2) (gC (T5 xs) (idW xs) 3))
 | 1 => env xs 1
 | 2 => env xs 2
 | 3 => env xs 3 - 1
 | 4 => env xs 4
 | _ => cd (dropT (T5 xs) (idW xs))
def pre48 (xs : List Int) : Prop := ∃ Q, WL (env xs 0) (env xs 5) (env xs 3) Q /\ 0 <= env xs 6 /\ env xs 6 < lenT xs /\ ofOK (nowW xs) (T5 xs) (idW xs) /\ idW xs ∈ Q (locI (nowW xs) (T5 xs) (idW xs)).toNat
def e48 : Ent := ⟨48, 58, [wsh, i64], [wob], [], .tup [], fn48, pre48⟩
def kW (now d : Int) : Int := if d <= now then 2048 else lvF now d * 512 + blk (lvF now d) d % 512
def fn49 (j : Nat) (xs : List Int) : Int := match j with
 | 0 => cd (putS (S3 xs) (kW (nowW xs) (env xs 7)).toNat (idW xs))
 | 1 => env xs 1
 | 2 => env xs 2
 | 3 => env xs 3 + 1
 | 4 => env xs 4
 | _ => cd (putT (T5 xs) (idW xs) (lvF (nowW xs) (env xs 7)) (blk (lvF (nowW xs) (env xs 7)) (env xs 7) % 512) (env xs 7) (gC (S3 xs) (kW (nowW xs) (env xs 7)).toNat 1))
def pre49 (xs : List Int) : Prop := ∃ Q, WL (env xs 0) (env xs 5) (env xs 3) Q /\ 0 <= env xs 6 /\ env xs 6 < lenT xs /\ (∀ m, idW xs ∉ Q m) /\ (0 <= nowW xs /\ nowW xs <= 1099511627776) /\ 0 <= env xs 7 /\ env xs 7 <= 1101659111424
def e49 : Ent := ⟨49, 59, [wsh, i64, i64], [wob], [], .tup [], fn49, pre49⟩
def fn50 (j : Nat) (xs : List Int) : Int := match j with
 | 0 => if gC (S3 xs) (idW xs) 2 = 0 then env xs 0 else cd (joinS (S3 xs) (idW xs))
 | 1 => env xs 1
 | 2 => env xs 2
 | 3 => env xs 3
 | 4 => env xs 4
 | _ => if gC (S3 xs) (idW xs) 2 = 0 then env xs 5 else cd (joinT (T5 xs) (gC (S3 xs) (idW xs) 0) (gC (S3 xs) 2048 1))
def pre50 (xs : List Int) : Prop := ∃ Q, WL (env xs 0) (env xs 5) (env xs 3) Q /\ 0 <= env xs 6 /\ env xs 6 < 2048
def e50 : Ent := ⟨50, 60, [wsh, pin], [wob], [], .tup [], fn50, pre50⟩
def wK (k now : Int) : Nat := (k * 512 + (blk k now + 1) % 512).toNat
def wtF (S : RL) (now : Int) : Int := if 0 < gC S (wK 1 now) 2 then gC S (wK 1 now) 0 else if 0 < gC S (wK 2 now) 2 then gC S (wK 2 now) 0 else if 0 < gC S (wK 3 now) 2 then gC S (wK 3 now) 0 else 0
def e51 : Ent := ⟨51, 61, [wsh], [], [0, 1], i64, fun _ xs => wtF (S3 xs) (nowW xs), fun xs => rowsOK k3 (S3 xs) /\ (S3 xs).length = 2049 /\ 0 <= nowW xs /\ nowW xs <= 1099511627776⟩
def cA : Ctx := ⟨[], []⟩
def cB : Ctx := ⟨[e71], []⟩
def cC : Ctx := ⟨[e69, e70], []⟩
def QL : E := (.cmp .geq (.bin .mul .i64 (lI 8) (vI 0)) (lI 0))
def UL : List E := [(.sh .shr .i64 (vI 1) (.bin .mul .i64 (lI 8) (vI 0)))]
theorem ev_71 : evE Try.prog G0 (Aj cA.fs) (ltOf cA.ls) 40 10 e71 = some (QL, UL) := by kernel_rfl
def QM : E := (.not (.cmp .eql (aI 0 0 [(vX 5)]) (lI 0)))
def es_46 : List E := []
theorem ev_46 : evE Try.prog G0 (Aj cA.fs) (ltOf cA.ls) 40 10 e46 = some (QM, es_46) := by kernel_rfl
def QN : E := (.lit .b 1)
def UM : List E := [(.and (.cmp .geq (vI 6) (lI 0)) (.cmp .lss (vI 6) (aI 0 0 [(vX 5)])))]
theorem ev_47 : evE Try.prog G0 (Aj cA.fs) (ltOf cA.ls) 40 10 e47 = some (QN, UM) := by kernel_rfl
def Gx : E := (.and (.cmp .geq (vI 6) (lI 0)) (.cmp .lss (vI 6) (aI 0 0 [(vX 5)])))
def KU : E := (.cmp .leq (aI 0 1 [(vX 5), (vI 6), (.lit .x 4)]) (vI 1))
def KW : E := (.cmp .geq (aI 0 1 [(vX 5), (vI 6), (.lit .x 0)]) (lI 0))
def QO : E := (.and Gx (.and Gx (.or KU (.and Gx (.and Gx (.and (.and KW (.cmp .lss (aI 0 1 [(vX 5), (vI 6), (.lit .x 0)]) (lI 4))) (.and (.and KW (.cmp .lss (aI 0 1 [(vX 5), (vI 6), (.lit .x 0)]) (lI 1000000000))) (.and (.cmp .geq (aI 0 1 [(vX 5), (vI 6), (.lit .x 1)]) (lI 0)) (.cmp .lss (aI 0 1 [(vX 5), (vI 6), (.lit .x 1)]) (lI 512))))))))))
def UN : List E := [(.ite KU (lI 2048) (.bin .add .i64 (.bin .mul .i64 (aI 0 1 [(vX 5), (vI 6), (.lit .x 0)]) (lI 512)) (aI 0 1 [(vX 5), (vI 6), (.lit .x 1)])))]
theorem ev_69 : evE Try.prog G0 (Aj cA.fs) (ltOf cA.ls) 40 10 e69 = some (QO, UN) := by kernel_rfl
def Iu : E := (.cmp .gtr (aI 71 0 [(lI 1), (vI 6)]) (.bin .add .i64 (aI 71 0 [(lI 1), (vI 1)]) (lI 1)))
def Gy : E := (.not Iu)
def Iv : E := (.cmp .gtr (aI 71 0 [(lI 2), (vI 6)]) (.bin .add .i64 (aI 71 0 [(lI 2), (vI 1)]) (lI 1)))
def Gz : E := (.not Iv)
def Iw : E := (.cmp .gtr (aI 71 0 [(lI 3), (vI 6)]) (.bin .add .i64 (aI 71 0 [(lI 3), (vI 1)]) (lI 1)))
def Ix : E := (.not Iw)
def GA : E := (.ite Gy (lI 0) (.ite Gz (lI 1) (.ite Ix (lI 2) (lI 3))))
def QP : E := (.and (.and (.and (.app .b 71 1000000 [(lI 1), (vI 6)]) (.app .b 71 1000000 [(lI 1), (vI 1)])) (.or Gy (.and (.and (.app .b 71 1000000 [(lI 2), (vI 6)]) (.app .b 71 1000000 [(lI 2), (vI 1)])) (.or Gz (.and (.app .b 71 1000000 [(lI 3), (vI 6)]) (.app .b 71 1000000 [(lI 3), (vI 1)])))))) (.or (.not (.or Gy (.and Iu (.or Gz (.and Iv (.or Ix Iw)))))) (.app .b 71 1000000 [GA, (vI 6)])))
def QQ : List E := [GA, (.dv .rem .i64 (aI 71 0 [GA, (vI 6)]) 512)]
theorem ev_70 : evE Try.prog G0 (Aj cB.fs) (ltOf cB.ls) 40 10 e70 = some (QP, QQ) := by kernel_rfl
def CJ : E := (.and (.cmp .geq (vI 6) (lI 0)) (.cmp .lss (vI 6) (aI 0 0 [(vX 5)])))
def Iy : E := (.cmp .gtr (aI 0 1 [(vX 5), (vI 6), (.lit .x 2)]) (lI 0))
def KX : E := (.bin .sub .i64 (aI 0 1 [(vX 5), (vI 6), (.lit .x 2)]) (lI 1))
def Dd : E := (aI 69 0 [(vX 0), (vI 1), (vI 2), (vI 3), (vI 4), (vX 5), (vI 6)])
def Iz : E := (.cmp .geq Dd (lI 0))
def KY : E := (.and Iz (.cmp .lss Dd (lI 1000000000)))
def IA : E := (.ite Iy (aX 0 6 [(vX 5), KX, (.lit .x 3), (aI 0 1 [(vX 5), (vI 6), (.lit .x 3)])]) (vX 5))
def N9 : E := (aI 0 1 [IA, (vI 6), (.lit .x 3)])
def IB : E := (.cmp .gtr N9 (lI 0))
def KZ : E := (.bin .sub .i64 N9 (lI 1))
def I7 : E := (.ite Iy (vX 0) (aX 0 6 [(vX 0), Dd, (.lit .x 0), (aI 0 1 [(vX 5), (vI 6), (.lit .x 3)])]))
def LU : E := (aI 0 1 [IA, (vI 6), (.lit .x 2)])
def I8 : E := (.ite IB I7 (aX 0 6 [I7, Dd, (.lit .x 1), LU]))
def QR : E := (.and (.and (.app .b 69 1000000 [(vX 0), (vI 1), (vI 2), (vI 3), (vI 4), (vX 5), (vI 6)]) CJ) (.and (.and CJ (.and (.or (.not Iy) (.and CJ (.and CJ (.and (.cmp .geq KX (lI 0)) (.cmp .lss KX (aI 0 0 [(vX 5)])))))) (.or Iy (.and CJ (.and KY (.and Iz (.cmp .lss Dd (aI 0 0 [(vX 0)])))))))) (.and (.and CJ (.and (.or (.not IB) (.and CJ (.and CJ (.and (.cmp .geq KZ (lI 0)) (.cmp .lss KZ (aI 0 0 [(vX 5)])))))) (.or IB (.and CJ (.and KY (.and Iz (.cmp .lss Dd (aI 0 0 [I7])))))))) (.and (.and KY (.and Iz (.cmp .lss Dd (aI 0 0 [I8])))) CJ))))
def UO : List E := [(aX 0 6 [I8, Dd, (.lit .x 2), (.bin .sub .i64 (aI 0 1 [I8, Dd, (.lit .x 2)]) (lI 1))]), (vI 1), (vI 2), (.bin .sub .i64 (vI 3) (lI 1)), (vI 4), (aX 0 6 [(.ite IB (aX 0 6 [IA, KZ, (.lit .x 2), LU]) IA), (vI 6), (.lit .x 0), (lI 0), (lI 0), (lI 0), (lI 0), (lI 0)])]
theorem ev_48 : evE Try.prog G0 (Aj cC.fs) (ltOf cC.ls) 40 10 e48 = some (QR, UO) := by kernel_rfl
def K0 : E := (.and (.cmp .geq (vI 6) (lI 0)) (.cmp .lss (vI 6) (aI 0 0 [(vX 5)])))
def K1 : E := (aX 0 6 [(aX 0 6 [(vX 5), (vI 6), (.lit .x 0), (aI 70 0 [(vX 0), (vI 1), (vI 2), (vI 3), (vI 4), (vX 5), (vI 7)]), (aI 70 1 [(vX 0), (vI 1), (vI 2), (vI 3), (vI 4), (vX 5), (vI 7)])]), (vI 6), (.lit .x 4), (vI 7)])
def CK : E := (aI 69 0 [(vX 0), (vI 1), (vI 2), (vI 3), (vI 4), K1, (vI 6)])
def IC : E := (.cmp .geq CK (lI 0))
def K2 : E := (.and IC (.cmp .lss CK (lI 1000000000)))
def ID : E := (.and K2 (.and IC (.cmp .lss CK (aI 0 0 [(vX 0)]))))
def K3 : E := (aI 0 1 [(vX 0), CK, (.lit .x 1)])
def IE : E := (.cmp .gtr K3 (lI 0))
def K4 : E := (.bin .sub .i64 K3 (lI 1))
def Oa : E := (.ite IE (vX 0) (aX 0 6 [(vX 0), CK, (.lit .x 0), (.bin .add .i64 (vI 6) (lI 1))]))
def I9 : E := (aX 0 6 [Oa, CK, (.lit .x 1), (.bin .add .i64 (vI 6) (lI 1))])
def LW : E := (aX 0 6 [(aX 0 6 [K1, (vI 6), (.lit .x 2), K3]), (vI 6), (.lit .x 3), (lI 0)])
def QS : E := (.and K0 (.and (.and (.app .b 70 1000000 [(vX 0), (vI 1), (vI 2), (vI 3), (vI 4), (vX 5), (vI 7)]) K0) (.and (.app .b 69 1000000 [(vX 0), (vI 1), (vI 2), (vI 3), (vI 4), K1, (vI 6)]) (.and (.and ID K0) (.and (.and ID (.and (.or (.not IE) (.and ID (.and (.cmp .geq K4 (lI 0)) (.cmp .lss K4 (aI 0 0 [(vX 5)]))))) (.or IE ID))) (.and (.and K2 (.and IC (.cmp .lss CK (aI 0 0 [Oa])))) (.and K2 (.and IC (.cmp .lss CK (aI 0 0 [I9]))))))))))
def UP : List E := [(aX 0 6 [I9, CK, (.lit .x 2), (.bin .add .i64 (aI 0 1 [I9, CK, (.lit .x 2)]) (lI 1))]), (vI 1), (vI 2), (.bin .add .i64 (vI 3) (lI 1)), (vI 4), (.ite IE (aX 0 6 [LW, K4, (.lit .x 3), (.bin .add .i64 (vI 6) (lI 1))]) LW)]
theorem ev_49 : evE Try.prog G0 (Aj cC.fs) (ltOf cC.ls) 40 10 e49 = some (QS, UP) := by kernel_rfl
def GB : E := (.and (.cmp .geq (vI 6) (lI 0)) (.cmp .lss (vI 6) (lI 1000000000)))
def IG : E := (.and GB (.and (.cmp .geq (vI 6) (lI 0)) (.cmp .lss (vI 6) (aI 0 0 [(vX 0)]))))
def IH : E := (.cmp .eql (aI 0 1 [(vX 0), (vI 6), (.lit .x 2)]) (lI 0))
def GC : E := (.cmp .gtr (aI 0 1 [(vX 0), (lI 2048), (.lit .x 1)]) (lI 0))
def II : E := (.bin .sub .i64 (aI 0 1 [(vX 0), (lI 2048), (.lit .x 1)]) (lI 1))
def Fw : E := (.ite GC (vX 0) (aX 0 6 [(vX 0), (lI 2048), (.lit .x 0), (aI 0 1 [(vX 0), (vI 6), (.lit .x 0)])]))
def K5 : E := (aI 0 0 [Fw])
def K6 : E := (.and GB (.and (.cmp .geq (vI 6) (lI 0)) (.cmp .lss (vI 6) K5)))
def K7 : E := (.cmp .lss (lI 2048) K5)
def IJ : E := (.bin .sub .i64 (aI 0 1 [Fw, (vI 6), (.lit .x 0)]) (lI 1))
def Fc : E := (aX 0 6 [Fw, (lI 2048), (.lit .x 1), (aI 0 1 [Fw, (vI 6), (.lit .x 1)])])
def Ja : E := (aI 0 0 [Fc])
def Jb : E := (.cmp .lss (lI 2048) Ja)
def Jc : E := (aX 0 6 [Fc, (lI 2048), (.lit .x 2), (.bin .add .i64 (aI 0 1 [Fc, (lI 2048), (.lit .x 2)]) (aI 0 1 [Fc, (vI 6), (.lit .x 2)]))])
def MS : E := (.and IG (.or IH (.and (.and (.cmp .lss (lI 2048) (aI 0 0 [(vX 0)])) (.and (.or (.not GC) (.and (.cmp .lss (lI 2048) (aI 0 0 [(vX 0)])) (.and IG (.and (.cmp .geq II (lI 0)) (.cmp .lss II (aI 0 0 [(vX 5)])))))) (.or GC (.and IG (.cmp .lss (lI 2048) (aI 0 0 [(vX 0)])))))) (.and (.and K6 (.and K7 (.and (.cmp .geq IJ (lI 0)) (.cmp .lss IJ (aI 0 0 [(vX 5)]))))) (.and (.and K6 K7) (.and (.and Jb (.and (.and GB (.and (.cmp .geq (vI 6) (lI 0)) (.cmp .lss (vI 6) Ja))) Jb)) (.and GB (.and (.cmp .geq (vI 6) (lI 0)) (.cmp .lss (vI 6) (aI 0 0 [Jc]))))))))))
def QT : List E := [(.ite IH (vX 0) (aX 0 6 [Jc, (vI 6), (.lit .x 0), (lI 0), (lI 0), (lI 0)])), (vI 1), (vI 2), (vI 3), (vI 4), (.ite IH (vX 5) (aX 0 6 [(.ite GC (aX 0 6 [(vX 5), II, (.lit .x 3), (aI 0 1 [(vX 0), (vI 6), (.lit .x 0)])]) (vX 5)), IJ, (.lit .x 2), (aI 0 1 [Fw, (lI 2048), (.lit .x 1)])]))]
theorem ev_50 : evE Try.prog G0 (Aj cC.fs) (ltOf cC.ls) 40 10 e50 = some (MS, QT) := by kernel_rfl
def GD : E := (.dv .rem .i64 (.bin .add .i64 (aI 71 0 [(lI 1), (vI 1)]) (lI 1)) 512)
def K8 : E := (.cmp .geq GD (lI 0))
def GF : E := (.bin .add .i64 GD (lI 512))
def GG : E := (.cmp .gtr (aI 0 1 [(vX 0), GF, (.lit .x 2)]) (lI 0))
def GH : E := (.dv .rem .i64 (.bin .add .i64 (aI 71 0 [(lI 2), (vI 1)]) (lI 1)) 512)
def K9 : E := (.cmp .geq GH (lI 0))
def GI : E := (.bin .add .i64 GH (lI 1024))
def GJ : E := (.cmp .gtr (aI 0 1 [(vX 0), GI, (.lit .x 2)]) (lI 0))
def GK : E := (.dv .rem .i64 (.bin .add .i64 (aI 71 0 [(lI 3), (vI 1)]) (lI 1)) 512)
def La : E := (.cmp .geq GK (lI 0))
def Fe : E := (.bin .add .i64 GK (lI 1536))
def QU : E := (.and (.and (.app .b 71 1000000 [(lI 1), (vI 1)]) (.and (.and K8 (.cmp .lss GD (lI 512))) (.and (.and K8 (.cmp .lss GD (lI 1000000000))) (.and (.cmp .geq GF (lI 0)) (.cmp .lss GF (aI 0 0 [(vX 0)])))))) (.or GG (.and (.and (.app .b 71 1000000 [(lI 2), (vI 1)]) (.and (.and K9 (.cmp .lss GH (lI 512))) (.and (.and K9 (.cmp .lss GH (lI 1000000000))) (.and (.cmp .geq GI (lI 0)) (.cmp .lss GI (aI 0 0 [(vX 0)])))))) (.or GJ (.and (.app .b 71 1000000 [(lI 3), (vI 1)]) (.and (.and La (.cmp .lss GK (lI 512))) (.and (.and La (.cmp .lss GK (lI 1000000000))) (.and (.cmp .geq Fe (lI 0)) (.cmp .lss Fe (aI 0 0 [(vX 0)]))))))))))
def UQ : List E := [(.ite (.or GG (.and (.not GG) (.or GJ (.and (.not GJ) (.cmp .gtr (aI 0 1 [(vX 0), Fe, (.lit .x 2)]) (lI 0)))))) (.ite GG (aI 0 1 [(vX 0), GF, (.lit .x 0)]) (.ite GJ (aI 0 1 [(vX 0), GI, (.lit .x 0)]) (aI 0 1 [(vX 0), Fe, (.lit .x 0)]))) (lI 0))]
theorem ev_51 : evE Try.prog G0 (Aj cB.fs) (ltOf cB.ls) 40 10 e51 = some (QU, UQ) := by kernel_rfl
theorem Az : Try.prog.follows Departure.mixedOrders = true := by kernel_rfl
abbrev EPz (e : Ent) (Q : Post) : Prop := EntryOK Try.prog G0 e /\ PostOK e Q
abbrev IPz (f : Nat) (p : List Bool) (e : LEnt) (Q : Post) : Prop := Bd Try.prog G0 f p e /\ PostOK e.ent Q
theorem cAok : cA.OK Try.prog G0 := Ctx.OK.nil
theorem ok71 : EntryOK Try.prog G0 e71 := cAok.entryP Az ev_71 _ rfl _ rfl fun xs hf hp => by
 obtain ⟨l, hl, hF⟩ := AK (l0 := cA.l)
 show QL.tt cA.l.F _ = true /\ Ax e71.fn _ cA.l.F _ _ _ _
 rw [hl]
 obtain ⟨k, t, rfl⟩ : ∃ a b, xs = [a, b] := by
  have := Am hf
  match xs, this with
  | [a, b], _ => exact ⟨a, b, rfl⟩
 obtain ⟨h0, h1, _⟩ := hf
 simp only [An] at h0 h1
 obtain ⟨p1, p2⟩ := hp
 simp only [ewY, seval] at p1 p2
 have hm := i64r h1
 refine ⟨?_, ?_, trivial⟩
 ·simp (disch := omega) only [QL, ewY, ewB, ewM, ewQ, reduceCtorEq, seval, h0, h1]
  omega
 ·simp (disch := omega) only [UL, e71, fn71, ewY, ewB, ewM, ewQ, reduceCtorEq, seval, h0, h1]
  have hpow : (256 : Int) ^ k.toNat = 2 ^ (8 * k).toNat := by
   rw [show (8 * k).toNat = 8 * k.toNat by omega, Int.pow_mul]; rfl
  have hpos : (0 : Int) < 2 ^ (8 * k).toNat := Int.pow_pos (by decide)
  rw [show min (8 * k).toNat IntKind.i64.bits = (8 * k).toNat by simp only [IntKind.bits]; omega, Int.fdiv_eq_ediv_of_nonneg _ (Int.le_of_lt hpos), blk, hpow]
  generalize (2 : Int) ^ (8 * k).toNat = q at hpos ⊢
  have g1 : t / q <= 9223372036854775807 := by
   by_cases ht : 0 <= t
   ·have := Int.ediv_le_self q ht; omega
   ·have : t / q < 0 := Int.ediv_neg_of_neg_of_pos (by omega) hpos; omega
  have g2 : -9223372036854775808 <= t / q := (Int.le_ediv_iff_mul_le hpos).2 (by
   have : (9223372036854775808 : Int) * 1 <= 9223372036854775808 * q := Int.mul_le_mul_of_nonneg_left (by omega) (by decide)
   rw [Int.neg_mul]; omega)
  exact i64w g2 g1
theorem Ex {xs : List Int} {k : K} (h : fits [.x, .i .i64, .i .i64, .i .i64, .i .i64, .x, k] xs) : ∃ S now bu le mo T i, xs = [S, now, bu, le, mo, T, i] := by
 have := Am h
 match xs, this with
 | [a, b, c, d, e, f, g], _ => exact ⟨_, _, _, _, _, _, _, rfl⟩
theorem Lc {xs : List Int} (h : fits [.x, .i .i64, .i .i64, .i .i64, .i .i64, .x] xs) : ∃ S now bu le mo T, xs = [S, now, bu, le, mo, T] := by
 have := Am h
 match xs, this with
 | [a, b, c, d, e, f], _ => exact ⟨_, _, _, _, _, _, rfl⟩
theorem rowsC {ks : List K} {T : RL} (h : rowsOK ks T) {i j : Nat} (hi : i < T.length) (hj : ks[j]? = some kJ) : IntKind.i64.wrap (gC T i j) = gC T i j := by
 have := JA (h _ (List.getElem_mem hi)) j _ hj
 unfold gC
 rw [show T.getD i [] = T[i] by simp [List.getD, hi]]
 exact this
theorem Ux {ks : List K} {T : RL} {i j : Nat} {vs : List Int} (h : rowsOK ks T) (hi : i < T.length) (hv : fits ks (splR (T.getD i []) j vs)) : rowsOK ks (setC T i j vs) := fun r hr => by
 unfold setC at hr
 rcases List.mem_or_eq_of_mem_set hr with h1 | rfl
 ·exact h r h1
 ·exact hv
theorem Aq {ks : List K} {T : RL} {i j : Nat} {vs : List Int} (h : rowsOK ks T) (hi : i < T.length) (hv : fits ((ks.drop j).take vs.length) vs) (hl : j + vs.length <= ks.length) : rowsOK ks (setC T i j vs) :=
 Ux h hi (HS (by rw [show T.getD i [] = T[i] by simp [List.getD, hi]]; exact h _ (List.getElem_mem hi)) hv hl).1
theorem ok46 : EntryOK Try.prog G0 e46 := cAok.entryP Az ev_46 _ rfl _ rfl fun xs hf hp => by
 obtain ⟨l, hl, hF⟩ := AK (l0 := cA.l)
 show QM.tt cA.l.F _ = true /\ Ax e46.fn _ cA.l.F _ _ _ _
 rw [hl]
 obtain ⟨S, now, bu, le, mo, T, rfl⟩ := Lc hf
 obtain ⟨p1, p2⟩ := hp
 simp only [lenT, ewY, seval] at p1 p2
 refine ⟨?_, trivial⟩
 simp (disch := omega) only [QM, ewY, ewB, ewM, ewQ, reduceCtorEq, seval]
 omega
theorem ok47 : EntryOK Try.prog G0 e47 := cAok.entryP Az ev_47 _ rfl _ rfl fun xs hf hp => by
 obtain ⟨l, hl, hF⟩ := AK (l0 := cA.l)
 show QN.tt cA.l.F _ = true /\ Ax e47.fn _ cA.l.F _ _ _ _
 rw [hl]
 obtain ⟨S, now, bu, le, mo, T, i, rfl⟩ := Ex hf
 obtain ⟨h0, h1, h2, h3, h4, h5, h6, _⟩ := hf
 simp only [An, A1] at h6
 obtain ⟨p1, p2⟩ := hp
 simp only [lenT, ewY, seval] at p1 p2
 refine ⟨?_, ?_, trivial⟩
 ·simp (disch := omega) only [QN, ewY, ewB, ewM, ewQ, reduceCtorEq, seval]
 ·simp (disch := omega) only [UM, e47, lenT, ewY, ewB, ewM, ewQ, reduceCtorEq, seval, h6]
theorem ok69 : EntryOK Try.prog G0 e69 := cAok.entryP Az ev_69 _ rfl _ rfl fun xs hf hp => by
 obtain ⟨l, hl, hF⟩ := AK (l0 := cA.l)
 show QO.tt cA.l.F _ = true /\ Ax e69.fn _ cA.l.F _ _ _ _
 rw [hl]
 obtain ⟨S, now, bu, le, mo, T, i, rfl⟩ := Ex hf
 obtain ⟨h0, h1, h2, h3, h4, h5, h6, _⟩ := hf
 simp only [An, A1] at h1 h6
 obtain ⟨p1, p2, p3, p4, p5⟩ := hp
 simp only [lenT, T5, S3, nowW, idW, ewY, seval] at p1 p2 p3 p4 p5
 have hl : i.toNat < (dc T).length := by omega
 have c0 := rowsC p1 (j := 0) hl rfl
 have c1 := rowsC p1 (j := 1) hl rfl
 have c4 := rowsC p1 (j := 4) hl rfl
 simp only [gC] at c0 c1 c4 p5
 simp only [ofOK, gC] at p5
 refine ⟨?_, ?_, trivial⟩
 ·simp (disch := omega) only [QO, Gx, KU, KW, ewY, ewB, ewM, ewQ, reduceCtorEq, seval, h1, h6, c0, c1, c4]
  exact ⟨⟨p3, p4⟩, ⟨p3, p4⟩, fun h => ⟨⟨p3, p4⟩, ⟨p3, p4⟩, ⟨(p5 h).1, (p5 h).2.1⟩, ⟨(p5 h).1, by have := (p5 h).2.1; omega⟩, (p5 h).2.2.1, (p5 h).2.2.2⟩⟩
 ·simp (disch := omega) only [UN, Gx, KU, KW, e69, locI, T5, nowW, idW, gC, ewY, ewB, ewM, ewQ, reduceCtorEq, seval, h1, h6, c0, c1, c4]
theorem A2 {t : Int} (k : Int) (h : 0 <= t) : 0 <= blk k t /\ blk k t <= t := by
 have hp : (0 : Int) < 256 ^ k.toNat := Int.pow_pos (by decide)
 exact ⟨Int.ediv_nonneg h (Int.le_of_lt hp), Int.ediv_le_self _ h⟩
theorem cBok : cB.OK Try.prog G0 := Ctx.OK.nil.addF ok71 rfl
set_option maxHeartbeats 4000000 in
theorem ok70 : EntryOK Try.prog G0 e70 := cBok.entryP Az ev_70 _ rfl _ rfl fun xs hf hp => by
 obtain ⟨l, hl, hF⟩ := AK (l0 := cB.l)
 show QP.tt cB.l.F _ = true /\ Ax e70.fn _ cB.l.F _ _ _ _
 rw [hl]
 have F71 := FC (k := 71) rfl (hF e71 (by rfl) (by decide))
 have hSS := F71
 obtain ⟨S, now, bu, le, mo, T, d, rfl⟩ := Ex hf
 obtain ⟨h0, h1, h2, h3, h4, h5, h6, _⟩ := hf
 simp only [An, A1] at h1 h6
 obtain ⟨p1, p2, p3, p4⟩ := hp
 simp only [nowW, ewY, seval] at p1 p2 p3 p4
 have f : ∀ k t, e71.fn 0 [k, t] = blk k t := fun _ _ => rfl
 have n1 := A2 1 p1
 have n2 := A2 2 p1
 have n3 := A2 3 p1
 have d1 := A2 1 p3
 have d2 := A2 2 p3
 have d3 := A2 3 p3
 have y : ∀ t, e71.pre [1, t] /\ e71.pre [2, t] /\ e71.pre [3, t] /\ e71.pre [0, t] := fun t => ⟨⟨by show (0 : Int) <= 1; decide, by show (1 : Int) <= 4; decide⟩, ⟨by show (0 : Int) <= 2; decide, by show (2 : Int) <= 4; decide⟩, ⟨by show (0 : Int) <= 3; decide, by show (3 : Int) <= 4; decide⟩, ⟨by show (0 : Int) <= 0; decide, by show (0 : Int) <= 4; decide⟩⟩
 refine ⟨?_, ?_, ?_, trivial⟩
 ·simp (disch := omega) only [QP, Iu, Gy, Iv, Gz, Iw, Ix, GA, ewY, ewB, ewM, ewQ, reduceCtorEq, seval, hSS, h1, h6, f]
  refine ⟨⟨⟨(y d).1, (y now).1⟩, fun _ => ⟨⟨(y d).2.1, (y now).2.1⟩, fun _ => ⟨(y d).2.2.1, (y now).2.2.1⟩⟩⟩, fun _ => ?_⟩
  split
  ·exact (y d).2.2.2
  ·split
   ·exact (y d).1
   ·split
    ·exact (y d).2.1
    ·exact (y d).2.2.1
 ·simp (disch := omega) only [QQ, Iu, Gy, Iv, Gz, Iw, Ix, GA, e70, fn70, lvF, nowW, ewY, ewB, ewM, ewQ, reduceCtorEq, seval, hSS, h1, h6, f]
 ·simp (disch := omega) only [QQ, Iu, Gy, Iv, Gz, Iw, Ix, GA, e70, fn70, lvF, nowW, ewY, ewB, ewM, ewQ, reduceCtorEq, seval, hSS, h1, h6, f]
  have hb : ∀ k, 0 <= blk k d /\ blk k d <= d := fun k => A2 k p3
  obtain ⟨Z, hZ⟩ : ∃ Z, Z = blk (if blk 1 d <= blk 1 now + 1 then 0 else if blk 2 d <= blk 2 now + 1 then 1 else if blk 3 d <= blk 3 now + 1 then 2 else 3) d := ⟨_, rfl⟩
  have hZr : 0 <= Z /\ Z <= d := hZ ▸ hb _
  rw [<- hZ, show IntKind.i64.wrap Z = Z from i64w (by omega) (by omega), Int.tmod_eq_emod_of_nonneg hZr.1]
theorem cCok : cC.OK Try.prog G0 := (Ctx.OK.nil.addF ok70 rfl).addF ok69 rfl
theorem Ei {l : List Nat} {c : Nat} (h : ∀ a ∈ l, a < c) : headP l <= c := by
 cases l with
 | nil => simp [headP]
 | cons a r => have := h a (by simp); simp only [headP]; omega
theorem Cl {l : List Nat} {c : Nat} (h : ∀ a ∈ l, a < c) : lastP l <= c := Ei (fun a ha => h a (by simpa using ha))
theorem AF (l : RL) (n j : Nat) : (l.getD n []).getD j 0 = gC l n j := rfl
theorem Hu (l : RL) (i j : Nat) (vs : List Int) : l.set i (splR (l.getD i []) j vs) = setC l i j vs := rfl
theorem Uy {now : Int} {T : RL} {i : Nat} (h : ofOK now T i) : 0 <= locI now T i /\ locI now T i < 2049 := by
 unfold locI
 by_cases hc : gC T i 4 <= now
 ·rw [if_pos hc]; omega
 ·rw [if_neg hc]; have := h (by omega); omega
theorem CL : ∀ {c : Nat} {l : List Nat}, l.Nodup -> (∀ a ∈ l, a < c) -> l.length <= c
 | 0, l, _, hl => by
   cases l with
   | nil => simp
   | cons a r => have := hl a (by simp); omega
 | c + 1, l, h, hl => by
   have h1 := CL (c := c) (l := l.erase c) (h.erase c) fun a ha => by
    have := (List.Nodup.mem_erase_iff h).1 ha
    have := hl a this.2
    omega
   rw [List.length_erase] at h1
   split at h1 <;> omega
set_option maxHeartbeats 8000000 in
theorem ok48 : EntryOK Try.prog G0 e48 := cCok.entryP Az ev_48 _ rfl _ rfl fun xs hf hp => by
 obtain ⟨l, hl, hF⟩ := AK (l0 := cC.l)
 show QR.tt cC.l.F _ = true /\ Ax e48.fn _ cC.l.F _ _ _ _
 rw [hl]
 have F69 := FC (k := 69) rfl (hF e69 (by rfl) (by decide))
 have hSS := F69
 obtain ⟨S, now, bu, le, mo, T, i, rfl⟩ := Ex hf
 obtain ⟨h0, h1, h2, h3, h4, h5, h6, _⟩ := hf
 simp only [An, A1] at h1 h2 h3 h4 h6
 obtain ⟨Q, p1, p2, p3, p4, p5⟩ := hp
 simp only [lenT, T5, S3, nowW, idW, ewY, seval] at p1 p2 p3 p4 p5
 have hle := p1.le
 have hct := p1.ct
 obtain ⟨A, B, hq⟩ := List.append_of_mem p5
 obtain ⟨c1, c2⟩ := p1.lk.ch _ _ _ _ hq
 obtain ⟨n, hn⟩ : ∃ n, n = i.toNat := ⟨_, rfl⟩
 have hl : n < (dc T).length := by omega
 have w2 := rowsC p1.rT (j := 2) hl rfl
 have w3 := rowsC p1.rT (j := 3) hl rfl
 have hL : e69.fn 0 [S, now, bu, le, mo, T, i] = locI now (dc T) n := by rw [hn]; rfl
 have hy : e69.pre [S, now, bu, le, mo, T, i] := ⟨p1.rT, p1.ct.2, p2, p3, p4⟩
 rw [<- hn] at c1 c2 hq p5 p4
 have hLr := Uy p4
 have hnd := p1.lk.nd (locI now (dc T) n).toNat
 rw [hq] at hnd
 have hin : ∀ a, a ∈ A \/ a ∈ B -> a < (dc T).length := fun a ha => p1.lk.qc (locI now (dc T) n).toNat a (by rw [hq]; rcases ha with h | h <;> simp [h])
 have hPr : 0 <= gC (dc T) n 2 /\ gC (dc T) n 2 <= ((dc T).length : Int) := by rw [c1]; exact ⟨AI _, Cl fun a ha => hin a (Or.inl ha)⟩
 have hXr : 0 <= gC (dc T) n 3 /\ gC (dc T) n 3 <= ((dc T).length : Int) := by rw [c2]; exact ⟨BV _, Ei fun a ha => hin a (Or.inr ha)⟩
 have hne : ((gC (dc T) n 2 - 1).toNat : Int) ≠ n \/ gC (dc T) n 2 = 0 := by
  by_cases h0 : gC (dc T) n 2 = 0
  ·exact Or.inr h0
  ·refine Or.inl fun e => ?_
   have : lastP A = (n : Int) + 1 := by rw [<- c1]; omega
   have hA := BN this
   obtain ⟨_, _, n3⟩ := List.nodup_append.1 hnd
   exact n3 n hA n (by simp) rfl
 have g2 : 0 < gC (dc T) n 2 -> gC (setC (dc T) (gC (dc T) n 2 - 1).toNat 3 [gC (dc T) n 3]) n 2 = gC (dc T) n 2 := fun h => by
  rw [p1.lk.tw.c1 (by omega) (by decide), if_neg (by omega)]
 have g3 : 0 < gC (dc T) n 2 -> gC (setC (dc T) (gC (dc T) n 2 - 1).toNat 3 [gC (dc T) n 3]) n 3 = gC (dc T) n 3 := fun h => by
  rw [p1.lk.tw.c1 (by omega) (by decide), if_neg (by omega)]
 have hS := p1.lk.sw.1
 have hK : (locI now (dc T) n).toNat < 2049 := by omega
 have hcr : 1 <= gC (dc S) (locI now (dc T) n).toNat 2 /\ gC (dc S) (locI now (dc T) n).toNat 2 <= 4096 := by
  rw [(p1.lk.hd _ hK).2.2, hq]
  have h1 := CL (p1.lk.nd (locI now (dc T) n).toNat) fun a ha => p1.lk.qc _ a ha
  rw [hq] at h1
  simp only [List.length_append, List.length_cons] at h1 ⊢
  omega
 have u0 : ∀ v, gC (setC (dc S) (locI now (dc T) n).toNat 0 [v]) (locI now (dc T) n).toNat 2 = gC (dc S) (locI now (dc T) n).toNat 2 := fun v => by rw [p1.lk.sw.c1 hK (by decide), if_neg (by omega)]
 have u1 : ∀ v, gC (setC (dc S) (locI now (dc T) n).toNat 1 [v]) (locI now (dc T) n).toNat 2 = gC (dc S) (locI now (dc T) n).toNat 2 := fun v => by rw [p1.lk.sw.c1 hK (by decide), if_neg (by omega)]
 have u2 : ∀ v w, gC (setC (setC (dc S) (locI now (dc T) n).toNat 0 [v]) (locI now (dc T) n).toNat 1 [w]) (locI now (dc T) n).toNat 2 = gC (dc S) (locI now (dc T) n).toNat 2 := fun v w => by rw [(p1.lk.sw.set hK (by simp)).c1 hK (by decide), if_neg (by omega), u0]
 by_cases hP : 0 < gC (dc T) n 2 <;> by_cases hX : 0 < gC (dc T) n 3 <;> refine ⟨?_, ?_, ?_, ?_, ?_, ?_, ?_, trivial⟩
 all_goals simp (disch := omega) only [QR, CJ, Iy, KX, Dd, Iz, KY, IA, N9, IB, KZ, I7, LU, I8, UO, e48, fn48, S3, T5, nowW, idW, ewY, ewB, ewM, ewQ, reduceCtorEq, seval, hSS, h1, h2, h3, h4, h6, hL, <- hn, AF, Hu, w2, w3, hP, hX, g2, g3, hy, Bx, hS, u0, u1, u2]
 all_goals first | omega | simp only [dropS, hP, hX, if_true, if_false, u0, u1, u2] | simp only [dropT, hP, hX, if_true, if_false]
theorem QV {xs : List Int} {k m : K} (h : fits [.x, .i .i64, .i .i64, .i .i64, .i .i64, .x, k, m] xs) : ∃ S now bu le mo T i d, xs = [S, now, bu, le, mo, T, i, d] := by
 have := Am h
 match xs, this with
 | [a, b, c, d, e, f, g, h], _ => exact ⟨_, _, _, _, _, _, _, _, rfl⟩
theorem GL (now d : Int) : 0 <= lvF now d /\ lvF now d <= 3 := by
 unfold lvF
 repeat' split
 all_goals omega
theorem Tw (now d : Int) : 0 <= kW now d /\ kW now d < 2049 := by
 unfold kW
 have := GL now d
 split <;> omega
set_option maxHeartbeats 8000000 in
theorem ok49 : EntryOK Try.prog G0 e49 := cCok.entryP Az ev_49 _ rfl _ rfl fun xs hf hp => by
 obtain ⟨l, hl, hF⟩ := AK (l0 := cC.l)
 show QS.tt cC.l.F _ = true /\ Ax e49.fn _ cC.l.F _ _ _ _
 rw [hl]
 have F69 := FC (k := 69) rfl (hF e69 (by rfl) (by decide))
 have F70 := FC (k := 70) rfl (hF e70 (by rfl) (by decide))
 have hSS := Jj F69 F70
 obtain ⟨S, now, bu, le, mo, T, i, d, rfl⟩ := QV hf
 obtain ⟨h0, h1, h2, h3, h4, h5, h6, h7, _⟩ := hf
 simp only [An, A1] at h1 h2 h3 h4 h6 h7
 obtain ⟨Q, p1, p2, p3, p4, p5, p6⟩ := hp
 simp only [lenT, T5, S3, nowW, idW, ewY, seval] at p1 p2 p3 p4 p5 p6
 have hle := p1.le
 have hct := p1.ct
 obtain ⟨n, hn⟩ : ∃ n, n = i.toNat := ⟨_, rfl⟩
 have hl : n < (dc T).length := by omega
 have hlv := GL now d
 have hb := A2 (lvF now d) p6.1
 have hk := Tw now d
 obtain ⟨lv, elv⟩ : ∃ lv, lv = lvF now d := ⟨_, rfl⟩
 obtain ⟨ix, eix⟩ : ∃ ix, ix = blk (lvF now d) d % 512 := ⟨_, rfl⟩
 have hix : 0 <= ix /\ ix < 512 := by omega
 have f0 : e70.fn 0 [S, now, bu, le, mo, T, d] = lv := elv.symm
 have f1 : e70.fn 1 [S, now, bu, le, mo, T, d] = ix := eix.symm
 have y70 : e70.pre [S, now, bu, le, mo, T, d] := ⟨p5.1, p5.2, p6⟩
 rw [<- elv] at hlv
 have wt1 := p1.lk.tw.set (vs := [lv, ix]) (j := 0) hl (by simp)
 have wt2 := wt1.set (vs := [d]) (j := 4) hl (by simp)
 have r4 : gC (setC (setC (dc T) n 0 [lv, ix]) n 4 [d]) n 4 = d := by rw [wt1.c1 hl (by decide), if_pos ⟨rfl, rfl⟩]
 have r0 : gC (setC (setC (dc T) n 0 [lv, ix]) n 4 [d]) n 0 = lv := by rw [wt1.c1 hl (by decide), if_neg (by omega), p1.lk.tw.c hl (by simp), if_pos ⟨rfl, by decide, by simp⟩]; rfl
 have r1 : gC (setC (setC (dc T) n 0 [lv, ix]) n 4 [d]) n 1 = ix := by rw [wt1.c1 hl (by decide), if_neg (by omega), p1.lk.tw.c hl (by simp), if_pos ⟨rfl, by decide, by simp⟩]; rfl
 have hL : e69.fn 0 [S, now, bu, le, mo, cd (setC (setC (dc T) n 0 [lv, ix]) n 4 [d]), i] = kW now d := by
  show locI now (dc (cd _)) i.toNat = _
  rw [Ab, <- hn]
  unfold locI kW
  rw [r4, r0, r1, elv, eix]
 have rT1 : rowsOK k5 (setC (setC (dc T) n 0 [lv, ix]) n 4 [d]) := by
  refine Aq (Aq p1.rT hl ?_ (by simp [k5])) (by rw [Bx]; exact hl) ?_ (by simp [k5])
  ·exact ⟨i64w (by omega) (by omega), i64w (by omega) (by omega), trivial⟩
  ·exact ⟨h7, trivial⟩
 have eix' : blk lv d % 512 = ix := by rw [elv]; exact eix.symm
 have hy : e69.pre [S, now, bu, le, mo, cd (setC (setC (dc T) n 0 [lv, ix]) n 4 [d]), i] := by
  show rowsOK k5 (dc (cd _)) /\ (dc (cd _)).length <= 4096 /\ 0 <= i /\ i < ((dc (cd _)).length : Int) /\ ofOK now (dc (cd _)) i.toNat
  rw [Ab, Bx, Bx, <- hn]
  exact ⟨rT1, hct.2, p2, p3, fun _ => by rw [r0, r1]; omega⟩
 obtain ⟨K, hK⟩ : ∃ K, K = (kW now d).toNat := ⟨_, rfl⟩
 have hK9 : K < 2049 := by omega
 have hS := p1.lk.sw.1
 obtain ⟨a0, a1, a2⟩ := p1.lk.hd K hK9
 have hla : 0 <= gC (dc S) K 1 /\ gC (dc S) K 1 <= ((dc T).length : Int) := by rw [a1]; exact ⟨AI _, Cl fun a ha => p1.lk.qc _ a ha⟩
 have hcr : 0 <= gC (dc S) K 2 /\ gC (dc S) K 2 <= 4096 := by
  rw [a2]
  have h1 := CL (p1.lk.nd K) fun a ha => p1.lk.qc _ a ha
  omega
 have u0 : ∀ v, gC (setC (dc S) K 0 [v]) K 2 = gC (dc S) K 2 := fun v => by rw [p1.lk.sw.c1 hK9 (by decide), if_neg (by omega)]
 have u1 : ∀ v, gC (setC (dc S) K 1 [v]) K 2 = gC (dc S) K 2 := fun v => by rw [p1.lk.sw.c1 hK9 (by decide), if_neg (by omega)]
 have u2 : ∀ v w, gC (setC (setC (dc S) K 0 [v]) K 1 [w]) K 2 = gC (dc S) K 2 := fun v w => by rw [(p1.lk.sw.set hK9 (by simp)).c1 hK9 (by decide), if_neg (by omega), u0]
 have wla : IntKind.i64.wrap (gC (dc S) K 1) = gC (dc S) K 1 := i64w (by omega) (by omega)
 have e1 : ((n : Nat) : Int) = i := by omega
 by_cases hP : 0 < gC (dc S) K 1 <;> refine ⟨?_, ?_, ?_, ?_, ?_, ?_, ?_, trivial⟩
 all_goals simp (disch := omega) only [QS, K0, K1, CK, IC, K2, ID, K3, IE, K4, Oa, I9, LW, UP, e49, fn49, S3, T5, nowW, idW, ewY, ewB, ewM, ewQ, reduceCtorEq, seval, hSS, h1, h2, h3, h4, h6, h7, f0, f1, y70, <- hn, AF, Hu, hL, hy, <- hK, hP, Bx, hS, u0, u1, u2, wla, <- elv, <- eix]
 all_goals first | omega | simp only [putS, hP, if_true, if_false, u0, u1, u2, e1] | simp only [putT, hP, if_true, if_false, e1, eix']
set_option maxHeartbeats 8000000 in
theorem ok50 : EntryOK Try.prog G0 e50 := cCok.entryP Az ev_50 _ rfl _ rfl fun xs hf hp => by
 obtain ⟨l, hl, hF⟩ := AK (l0 := cC.l)
 show MS.tt cC.l.F _ = true /\ Ax e50.fn _ cC.l.F _ _ _ _
 rw [hl]
 obtain ⟨S, now, bu, le, mo, T, i, rfl⟩ := Ex hf
 obtain ⟨h0, h1, h2, h3, h4, h5, h6, _⟩ := hf
 simp only [An, A1] at h1 h2 h3 h4 h6
 obtain ⟨Q, p1, p2, p3⟩ := hp
 simp only [ewY, seval] at p1 p2 p3
 have hle := p1.le
 have hct := p1.ct
 obtain ⟨n, hn⟩ : ∃ n, n = i.toNat := ⟨_, rfl⟩
 have hn8 : n < 2048 := by omega
 have hS := p1.lk.sw.1
 obtain ⟨a0, a1, a2⟩ := p1.lk.hd n (by omega)
 obtain ⟨b0, b1, b2⟩ := p1.lk.hd 2048 (by omega)
 have bnd : ∀ k, (Q k).length <= (dc T).length := fun k => CL (p1.lk.nd k) fun a ha => p1.lk.qc _ a ha
 have q0 : 0 <= gC (dc S) n 0 /\ gC (dc S) n 0 <= ((dc T).length : Int) := by rw [a0]; exact ⟨BV _, Ei fun a ha => p1.lk.qc _ a ha⟩
 have q1 : 0 <= gC (dc S) n 1 /\ gC (dc S) n 1 <= ((dc T).length : Int) := by rw [a1]; exact ⟨AI _, Cl fun a ha => p1.lk.qc _ a ha⟩
 have q2 : 0 <= gC (dc S) n 2 /\ gC (dc S) n 2 <= 4096 := by rw [a2]; have := bnd n; omega
 have q3 : 0 <= gC (dc S) 2048 1 /\ gC (dc S) 2048 1 <= ((dc T).length : Int) := by rw [b1]; exact ⟨AI _, Cl fun a ha => p1.lk.qc _ a ha⟩
 have q4 : 0 <= gC (dc S) 2048 2 /\ gC (dc S) 2048 2 <= 4096 := by rw [b2]; have := bnd 2048; omega
 have q5 : gC (dc S) n 2 ≠ 0 -> 0 < gC (dc S) n 0 := fun h => by
  rw [a2] at h
  rw [a0]
  cases hq : Q n with
  | nil => rw [hq] at h; exact absurd rfl h
  | cons a r => simp only [headP]; omega
 have hb := p1.lk.sw
 have v0 : ∀ v j, gC (setC (dc S) 2048 0 [v]) n j = gC (dc S) n j := fun v j => by rw [hb.c1 (by omega) (by decide), if_neg (by omega)]
 have w0 : ∀ v, Wid (setC (dc S) 2048 0 [v]) 2049 3 := fun v => hb.set (by omega) (by simp)
 have v1 : ∀ v, gC (setC (dc S) 2048 0 [v]) 2048 1 = gC (dc S) 2048 1 := fun v => by rw [hb.c1 (by omega) (by decide), if_neg (by omega)]
 have x1 : ∀ v j, gC (setC (dc S) 2048 1 [v]) n j = gC (dc S) n j := fun v j => by rw [hb.c1 (by omega) (by decide), if_neg (by omega)]
 have x2 : ∀ v, gC (setC (dc S) 2048 1 [v]) 2048 2 = gC (dc S) 2048 2 := fun v => by rw [hb.c1 (by omega) (by decide), if_neg (by omega)]
 have y1 : ∀ u v j, gC (setC (setC (dc S) 2048 0 [u]) 2048 1 [v]) n j = gC (dc S) n j := fun u v j => by rw [(w0 u).c1 (by omega) (by decide), if_neg (by omega), v0]
 have y2 : ∀ u v, gC (setC (setC (dc S) 2048 0 [u]) 2048 1 [v]) 2048 2 = gC (dc S) 2048 2 := fun u v => by rw [(w0 u).c1 (by omega) (by decide), if_neg (by omega), hb.c1 (by omega) (by decide), if_neg (by omega)]
 by_cases hc : gC (dc S) n 2 = 0
 ·refine ⟨?_, ?_, ?_, ?_, ?_, ?_, ?_, trivial⟩
  all_goals simp (disch := omega) only [MS, GB, IG, IH, GC, II, Fw, K5, K6, K7, IJ, Fc, Ja, Jb, Jc, QT, e50, fn50, S3, T5, nowW, idW, ewY, ewB, ewM, ewQ, reduceCtorEq, seval, h1, h2, h3, h4, h6, <- hn, AF, Hu, hc, Bx, hS]
  all_goals omega
 ·by_cases hP : 0 < gC (dc S) 2048 1 <;> refine ⟨?_, ?_, ?_, ?_, ?_, ?_, ?_, trivial⟩
  all_goals simp (disch := omega) only [MS, GB, IG, IH, GC, II, Fw, K5, K6, K7, IJ, Fc, Ja, Jb, Jc, QT, e50, fn50, S3, T5, nowW, idW, ewY, ewB, ewM, ewQ, reduceCtorEq, seval, h1, h2, h3, h4, h6, <- hn, AF, Hu, hc, hP, Bx, hS, v0, v1, x1, x2, y1, y2]
  all_goals first | omega | simp only [joinS, hP, if_true, if_false, v0, v1, x1, x2, y1, y2] | simp only [joinT, hP, if_true, if_false]
theorem wK_lt {k now : Int} (h : 0 <= k) (h3 : k <= 3) : wK k now < 2048 := by unfold wK; omega
set_option maxHeartbeats 8000000 in
theorem ok51 : EntryOK Try.prog G0 e51 := cBok.entryP Az ev_51 _ rfl _ rfl fun xs hf hp => by
 obtain ⟨l, hl, hF⟩ := AK (l0 := cB.l)
 show QU.tt cB.l.F _ = true /\ Ax e51.fn _ cB.l.F _ _ _ _
 rw [hl]
 have F71 := FC (k := 71) rfl (hF e71 (by rfl) (by decide))
 have hSS := F71
 obtain ⟨S, now, bu, le, mo, T, rfl⟩ := Lc hf
 obtain ⟨h0, h1, h2, h3, h4, h5, _⟩ := hf
 simp only [An, A1] at h1 h2 h3 h4
 obtain ⟨p1, p2, p3, p4⟩ := hp
 simp only [S3, nowW, ewY, seval] at p1 p2 p3 p4
 have f : ∀ k t, e71.fn 0 [k, t] = blk k t := fun _ _ => rfl
 have n1 := A2 1 p3
 have n2 := A2 2 p3
 have n3 := A2 3 p3
 have y1 : e71.pre [1, now] := ⟨by show (0 : Int) <= 1; decide, by show (1 : Int) <= 4; decide⟩
 have y2 : e71.pre [2, now] := ⟨by show (0 : Int) <= 2; decide, by show (2 : Int) <= 4; decide⟩
 have y3 : e71.pre [3, now] := ⟨by show (0 : Int) <= 3; decide, by show (3 : Int) <= 4; decide⟩
 have t1 : (blk 1 now + 1).tmod 512 = (blk 1 now + 1) % 512 := Int.tmod_eq_emod_of_nonneg (by omega)
 have t2 : (blk 2 now + 1).tmod 512 = (blk 2 now + 1) % 512 := Int.tmod_eq_emod_of_nonneg (by omega)
 have t3 : (blk 3 now + 1).tmod 512 = (blk 3 now + 1) % 512 := Int.tmod_eq_emod_of_nonneg (by omega)
 have cw : ∀ k j, k < 2049 -> j < 3 -> IntKind.i64.wrap (gC (dc S) k j) = gC (dc S) k j := fun k j hk hj => by
  match j, hj with
  | 0, _ | 1, _ | 2, _ => exact rowsC p1 (by omega) rfl
 refine ⟨?_, ?_, trivial⟩
 ·simp (disch := omega) only [QU, GD, K8, GF, GG, GH, K9, GI, GJ, GK, La, Fe, ewY, ewB, ewM, ewQ, reduceCtorEq, seval, hSS, h1, f, y1, y2, y3, t1, t2, t3, AF, cw, p2]
  omega
 ·simp (disch := omega) only [UQ, GD, K8, GF, GG, GH, K9, GI, GJ, GK, La, Fe, e51, wtF, wK, S3, nowW, ewY, ewB, ewM, ewQ, reduceCtorEq, seval, hSS, h1, f, y1, y2, y3, t1, t2, t3, AF, cw, p2]
  rw [Int.add_comm 512, Int.add_comm 1024, Int.add_comm 1536]
  have g1 := cw ((blk 1 now + 1) % 512 + 512).toNat 0 (by omega) (by decide)
  have g2 := cw ((blk 2 now + 1) % 512 + 1024).toNat 0 (by omega) (by decide)
  have g3 := cw ((blk 3 now + 1) % 512 + 1536).toNat 0 (by omega) (by decide)
  by_cases c1 : 0 < gC (dc S) ((blk 1 now + 1) % 512 + 512).toNat 2
  ·rw [if_pos c1, if_pos (fun h => absurd c1 (by omega)), if_pos c1, g1]
  ·rw [if_neg c1]
   by_cases c2 : 0 < gC (dc S) ((blk 2 now + 1) % 512 + 1024).toNat 2
   ·rw [if_pos c2, if_pos (fun _ => ⟨by omega, fun h => absurd c2 (by omega)⟩), if_neg c1, if_pos c2, g2]
   ·rw [if_neg c2]
    by_cases c3 : 0 < gC (dc S) ((blk 3 now + 1) % 512 + 1536).toNat 2
    ·rw [if_pos c3, if_pos (fun _ => ⟨by omega, fun _ => ⟨by omega, c3⟩⟩), if_neg c1, if_neg c2, g3]
    ·rw [if_neg c3, if_neg (fun h => c3 ((h (by omega)).2 (by omega)).2)]; rfl
theorem blk0 (t : Int) : blk 0 t = t := by simp [blk]
theorem blk1 (t : Int) : blk 1 t = t / 256 := rfl
theorem blk2 (t : Int) : blk 2 t = t / 65536 := rfl
theorem blk3 (t : Int) : blk 3 t = t / 16777216 := rfl
theorem blk4 (t : Int) : blk 4 t = t / 4294967296 := rfl
def cnt (n : Nat) (p : Nat -> Bool) : Nat := (List.range n).countP p
theorem CM (n : Nat) (p : Nat -> Bool) : cnt (n + 1) p = cnt n p + (if p n = true then 1 else 0) := by
 unfold cnt; rw [List.range_succ, List.countP_append, List.countP_singleton]
theorem EF {p q : Nat -> Bool} : ∀ {n : Nat}, (∀ j < n, p j = q j) -> cnt n p = cnt n q
 | 0, _ => rfl
 | n + 1, h => by rw [CM, CM, EF (n := n) fun j hj => h j (by omega), h n (by omega)]
theorem Oc (p : Nat -> Bool) : ∀ n : Nat, cnt n p <= n
 | 0 => Nat.le_refl _
 | n + 1 => by rw [CM]; have := Oc p n; split <;> omega
theorem Hv {p q : Nat -> Bool} : ∀ {n : Nat}, (∀ j < n, p j = true -> q j = true) -> cnt n p <= cnt n q
 | 0, _ => Nat.le_refl _
 | n + 1, h => by
   rw [CM, CM]
   have h1 := Hv (n := n) fun j hj => h j (by omega)
   have h2 := h n (by omega)
   cases hp : p n <;> cases hq : q n <;> simp_all <;> omega
theorem GM {p : Nat -> Bool} : ∀ {n i : Nat}, i < n -> p i = true -> 0 < cnt n p
 | n + 1, i, hi, hp => by
   rw [CM]
   by_cases h : i = n
   ·subst h; rw [if_pos hp]; omega
   ·have := GM (n := n) (i := i) (by omega) hp; omega
theorem JZ {p : Nat -> Bool} {n : Nat} (h : ∀ j < n, p j = false) : cnt n p = 0 := by
 unfold cnt
 rw [List.countP_eq_zero]
 intro j hj
 rw [h j (List.mem_range.1 hj)]; decide
theorem Jd {p q : Nat -> Bool} {i : Nat} : ∀ {n : Nat}, i < n -> (∀ j < n, j ≠ i -> q j = p j) -> (cnt n q : Int) = cnt n p - (if p i = true then 1 else 0) + (if q i = true then 1 else 0)
 | n + 1, hi, h => by
   rw [CM, CM]
   by_cases hn : i = n
   ·subst hn
    rw [EF (n := i) (p := q) (q := p) fun j hj => h j (by omega) (by omega)]
    cases p i <;> cases q i <;> simp <;> omega
   ·have := Jd (n := n) (i := i) (by omega) fun j hj hne => h j (by omega) hne
    have hq := h n (by omega) (fun e => hn e.symm)
    rw [hq]
    split <;> omega
def AO (now : Int) (T : RL) (i : Nat) : Bool := decide (now < gC T i 4) && decide (1 <= gC T i 0) && decide (blk (gC T i 0) (gC T i 4) = blk (gC T i 0) now + 1)
def cntW (now : Int) (T : RL) : Nat := cnt T.length (AO now T)
def cntD (T : RL) : Nat := cnt T.length fun i => decide (0 < gC T i 4)
structure WOK (now bu le : Int) (S T : RL) (Q : Nat -> List Nat) (w : Int) : Prop where
 tm : 0 <= now /\ now <= 1099511627776
 bg : 1 <= bu /\ bu <= 4096
 ct : 0 < T.length /\ T.length <= 4096 /\ (T.length : Int) <= 256 * bu
 rS : rowsOK k3 S
 rT : rowsOK k5 T
 lk : Lk T S Q T.length
 inn : ∀ i < T.length, 0 < gC T i 4 -> i ∈ Q (locI now T i).toNat
 out : ∀ k i, i ∈ Q k -> 0 < gC T i 4 /\ (locI now T i).toNat = k
 dr : ∀ i < T.length, 0 <= gC T i 4 /\ gC T i 4 <= now + 2147483648
 pl : ∀ i < T.length, now < gC T i 4 -> (0 <= gC T i 0 /\ gC T i 0 <= 3) /\ gC T i 1 = blk (gC T i 0) (gC T i 4) % 512 /\ (1 <= gC T i 0 -> blk (gC T i 0) now < blk (gC T i 0) (gC T i 4)) /\ (gC T i 0 < 3 -> blk (gC T i 0 + 1) (gC T i 4) <= blk (gC T i 0 + 1) now + 1)
 wt : (cntW now T : Int) <= w
 ln : le = (cntD T : Int)
theorem WOK.of {now bu le w : Int} {S T : RL} {Q : Nat -> List Nat} (h : WOK now bu le S T Q w) {i : Nat} (hi : i < T.length) : ofOK now T i := fun hd => by
 obtain ⟨p1, p2, _, _⟩ := h.pl i hi hd
 rw [p2]
 refine ⟨p1.1, by omega, Int.emod_nonneg _ (by decide), Int.emod_lt_of_pos _ (by decide)⟩
theorem WOK.le_rng {now bu le w : Int} {S T : RL} {Q : Nat -> List Nat} (h : WOK now bu le S T Q w) : 0 <= le /\ le <= 4096 := by
 have := Oc (fun i => decide (0 < gC T i 4)) T.length
 have h1 := h.ct
 rw [h.ln]; unfold cntD; omega
theorem w64 {v : Int} (h1 : -9223372036854775808 <= v) (h2 : v <= 9223372036854775807) : K.norm kJ v = v := i64w h1 h2
theorem QW {S : RL} {k : Nat} {p n : Int} {c : Nat} (h : rowsOK k3 S) (hw : Wid S 2049 3) (hk : k < 2049) (hp : 0 <= p /\ p <= c) (hn : 0 <= n /\ n <= c) (hc : c <= 4096) (hcc : 0 <= gC S k 2 /\ gC S k 2 <= 4096) : rowsOK k3 (dropS S k p n) := by
 have hl := hw.1
 have s1 : rowsOK k3 (if 0 < p then S else setC S k 0 [n]) /\ Wid (if 0 < p then S else setC S k 0 [n]) 2049 3 /\ gC (if 0 < p then S else setC S k 0 [n]) k 2 = gC S k 2 := by
  split
  ·exact ⟨h, hw, rfl⟩
  ·exact ⟨Aq h (by omega) ⟨w64 (by omega) (by omega), trivial⟩ (by simp [k3]), hw.set hk (by simp), by rw [hw.c1 hk (by decide), if_neg (by omega)]⟩
 obtain ⟨S1, e1⟩ : ∃ S1, S1 = if 0 < p then S else setC S k 0 [n] := ⟨_, rfl⟩
 rw [<- e1] at s1
 obtain ⟨a1, a2, a3⟩ := s1
 have s2 : rowsOK k3 (if 0 < n then S1 else setC S1 k 1 [p]) /\ Wid (if 0 < n then S1 else setC S1 k 1 [p]) 2049 3 /\ gC (if 0 < n then S1 else setC S1 k 1 [p]) k 2 = gC S k 2 := by
  split
  ·exact ⟨a1, a2, a3⟩
  ·exact ⟨Aq a1 (by rw [a2.1]; omega) ⟨w64 (by omega) (by omega), trivial⟩ (by simp [k3]), a2.set hk (by simp), by rw [a2.c1 hk (by decide), if_neg (by omega), a3]⟩
 obtain ⟨S2, e2⟩ : ∃ S2, S2 = if 0 < n then S1 else setC S1 k 1 [p] := ⟨_, rfl⟩
 rw [<- e2] at s2
 obtain ⟨b1, b2, b3⟩ := s2
 have e3 : dropS S k p n = setC S2 k 2 [gC S2 k 2 - 1] := by unfold dropS; rw [e2, e1]
 rw [e3, b3]
 exact Aq b1 (by rw [b2.1]; omega) ⟨w64 (by omega) (by omega), trivial⟩ (by simp [k3])
theorem QX {T S : RL} {Q : Nat -> List Nat} {cap k i : Nat} {A B : List Nat} (h : rowsOK k5 T) (hk : Lk T S Q cap) (hq : Q k = A ++ i :: B) (hc : cap <= 4096) : rowsOK k5 (dropT T i) := by
 obtain ⟨c1, c2⟩ := hk.ch k A i B hq
 have hic : i < cap := hk.qc k i (by rw [hq]; simp)
 have hA : lastP A <= cap := Cl fun a ha => hk.qc k a (by rw [hq]; simp [ha])
 have hB : headP B <= cap := Ei fun a ha => hk.qc k a (by rw [hq]; simp [ha])
 have hA0 := AI A
 have hB0 := BV B
 have hw := hk.tw
 have s1 : rowsOK k5 (if 0 < lastP A then setC T (lastP A - 1).toNat 3 [headP B] else T) /\ Wid (if 0 < lastP A then setC T (lastP A - 1).toNat 3 [headP B] else T) cap 5 := by
  split
  ·exact ⟨Aq h (by rw [hw.1]; omega) ⟨w64 (by omega) (by omega), trivial⟩ (by simp [k5]), hw.set (by omega) (by simp)⟩
  ·exact ⟨h, hw⟩
 obtain ⟨T1, e1⟩ : ∃ T1, T1 = if 0 < lastP A then setC T (lastP A - 1).toNat 3 [headP B] else T := ⟨_, rfl⟩
 rw [<- e1] at s1
 obtain ⟨a1, a2⟩ := s1
 have s2 : rowsOK k5 (if 0 < headP B then setC T1 (headP B - 1).toNat 2 [lastP A] else T1) /\ Wid (if 0 < headP B then setC T1 (headP B - 1).toNat 2 [lastP A] else T1) cap 5 := by
  split
  ·exact ⟨Aq a1 (by rw [a2.1]; omega) ⟨w64 (by omega) (by omega), trivial⟩ (by simp [k5]), a2.set (by omega) (by simp)⟩
  ·exact ⟨a1, a2⟩
 obtain ⟨T2, e2⟩ : ∃ T2, T2 = if 0 < headP B then setC T1 (headP B - 1).toNat 2 [lastP A] else T1 := ⟨_, rfl⟩
 rw [<- e2] at s2
 have e3 : dropT T i = setC T2 i 0 [0, 0, 0, 0, 0] := by unfold dropT; simp only [c1, c2]; rw [e2, e1]
 rw [e3]
 exact Aq s2.1 (by rw [s2.2.1]; exact hic) ⟨rfl, rfl, rfl, rfl, rfl, trivial⟩ (by simp [k5])
theorem WOK.drop {now bu le w : Int} {S T : RL} {Q : Nat -> List Nat} {i : Nat} (h : WOK now bu le S T Q w) (hi : i < T.length) (hd : 0 < gC T i 4) :
 ∃ A B, Q (locI now T i).toNat = A ++ i :: B /\ WOK now bu (le - 1) (dropS S (locI now T i).toNat (gC T i 2) (gC T i 3)) (dropT T i) (uQ Q (locI now T i).toNat (A ++ B)) w /\
   (dropT T i).length = T.length /\ (∀ y, y ≠ i -> gC (dropT T i) y 0 = gC T y 0 /\ gC (dropT T i) y 1 = gC T y 1 /\ gC (dropT T i) y 4 = gC T y 4) /\ gC (dropT T i) i 4 = 0 := by
 have hm := h.inn i hi hd
 obtain ⟨A, B, hq⟩ := List.append_of_mem hm
 obtain ⟨t1, t2⟩ := Hs h.lk hq
 have hl : (dropT T i).length = T.length := t1.1
 have hy : ∀ y, y ≠ i -> gC (dropT T i) y 0 = gC T y 0 /\ gC (dropT T i) y 1 = gC T y 1 /\ gC (dropT T i) y 4 = gC T y 4 := fun y hy => by
  rw [t2, t2, t2]; simp [hy]
 have hz : ∀ j, j < 5 -> gC (dropT T i) i j = 0 := fun j hj => by rw [t2, if_pos ⟨rfl, hj⟩]
 have hlk := h.lk.drop hq
 have hnd := h.lk.nd (locI now T i).toNat
 rw [hq] at hnd
 obtain ⟨n1, n2, n3⟩ := List.nodup_append.1 hnd
 obtain ⟨n4, n5⟩ := List.nodup_cons.1 n2
 have hiA : i ∉ A := fun hA => n3 i hA i (by simp) rfl
 have hloc : ∀ y, y ≠ i -> locI now (dropT T i) y = locI now T y := fun y hy' => by
  obtain ⟨e0, e1, e4⟩ := hy y hy'
  unfold locI; rw [e0, e1, e4]
 have hnot : ∀ k, i ∉ uQ Q (locI now T i).toNat (A ++ B) k := fun k hk => by
  by_cases hkk : k = (locI now T i).toNat
  ·rw [hkk, AL] at hk
   rcases List.mem_append.1 hk with h1 | h1
   ·exact hiA h1
   ·exact n4 h1
  ·rw [AU Q _ hkk] at hk
   exact hkk (h.lk.dj _ _ i hk hm)
 refine ⟨A, B, hq, ⟨h.tm, h.bg, by rw [hl]; exact h.ct, ?_, ?_, by rw [hl]; exact hlk, fun y hyl hyd => ?_, fun k y hk => ?_, fun y hyl => ?_, fun y hyl hyd => ?_, ?_, ?_⟩, hl, hy, hz 4 (by decide)⟩
 ·
  have hk : (locI now T i).toNat < 2049 := h.lk.q_lt hm
  exact QW h.rS h.lk.sw hk (by rw [(h.lk.ch _ _ _ _ hq).1]; exact ⟨AI _, Cl fun a ha => h.lk.qc _ a (by rw [hq]; simp [ha])⟩)
   (by rw [(h.lk.ch _ _ _ _ hq).2]; exact ⟨BV _, Ei fun a ha => h.lk.qc _ a (by rw [hq]; simp [ha])⟩) h.ct.2.1
   (by
    rw [(h.lk.hd _ hk).2.2]
    have := CL (h.lk.nd (locI now T i).toNat) fun a ha => h.lk.qc _ a ha
    have := h.ct
    omega)
 ·exact QX h.rT h.lk hq h.ct.2.1
 ·rw [hl] at hyl
  by_cases he : y = i
  ·subst he; rw [hz 4 (by decide)] at hyd; omega
  ·rw [hloc y he]
   rw [(hy y he).2.2] at hyd
   have h1 := h.inn y hyl hyd
   by_cases hk : (locI now T y).toNat = (locI now T i).toNat
   ·rw [hk, AL]
    rw [hk, hq] at h1
    simp only [List.mem_append, List.mem_cons] at h1 ⊢
    rcases h1 with h1 | h1 | h1
    ·exact Or.inl h1
    ·exact absurd h1 he
    ·exact Or.inr h1
   ·rw [AU Q _ hk]; exact h1
 ·have he : y ≠ i := fun e => hnot k (e ▸ hk)
  rw [hloc y he, (hy y he).2.2]
  by_cases hkk : k = (locI now T i).toNat
  ·subst hkk
   rw [AL] at hk
   exact h.out _ y (by rw [hq]; rcases List.mem_append.1 hk with h1 | h1 <;> simp [h1])
  ·rw [AU Q _ hkk] at hk
   exact h.out _ y hk
 ·rw [hl] at hyl
  by_cases he : y = i
  ·subst he
   rw [hz 4 (by decide)]
   have := h.tm; omega
  ·rw [(hy y he).2.2]; exact h.dr y hyl
 ·rw [hl] at hyl
  by_cases he : y = i
  ·subst he
   rw [hz 4 (by decide)] at hyd
   have := h.tm; omega
  ·obtain ⟨e0, e1, e4⟩ := hy y he
   rw [e4] at hyd
   rw [e0, e1, e4]; exact h.pl y hyl hyd
 ·refine Int.le_trans ?_ h.wt
  unfold cntW
  rw [hl]
  refine Int.ofNat_le.2 (Hv fun y hyl hw => ?_)
  by_cases he : y = i
  ·subst he
   unfold AO at hw
   rw [hz 4 (by decide)] at hw
   simp only [Bool.and_eq_true, decide_eq_true_eq] at hw
   have := h.tm; omega
  ·obtain ⟨e0, e1, e4⟩ := hy y he
   unfold AO at hw ⊢
   rw [e0, e4] at hw
   exact hw
 ·rw [h.ln]
  unfold cntD
  rw [hl]
  have := Jd (p := fun i => decide (0 < gC T i 4)) (q := fun y => decide (0 < gC (dropT T i) y 4)) hi fun y _ he => by rw [(hy y he).2.2]
  rw [this]
  simp only [hd, hz 4 (by decide)]
  simp
theorem Tx {T : RL} {cap i : Nat} {lv ix d la : Int} (h : rowsOK k5 T) (hw : Wid T cap 5) (hi : i < cap) (hc : cap <= 4096) (h1 : 0 <= lv /\ lv <= 3) (h2 : 0 <= ix /\ ix < 512) (h3 : 0 <= d /\ d <= 1101659111424) (h4 : 0 <= la /\ la <= cap) : rowsOK k5 (putT T i lv ix d la) := by
 have w1 := hw.set (vs := [lv, ix]) (j := 0) hi (by simp)
 have w2 := w1.set (vs := [d]) (j := 4) hi (by simp)
 have w3 := w2.set (vs := [la]) (j := 2) hi (by simp)
 have w4 := w3.set (vs := [0]) (j := 3) hi (by simp)
 have r1 := Aq (j := 0) (vs := [lv, ix]) h (by rw [hw.1]; exact hi) ⟨w64 (by omega) (by omega), w64 (by omega) (by omega), trivial⟩ (by simp [k5])
 have r2 := Aq (j := 4) (vs := [d]) r1 (by rw [w1.1]; exact hi) ⟨w64 (by omega) (by omega), trivial⟩ (by simp [k5])
 have r3 := Aq (j := 2) (vs := [la]) r2 (by rw [w2.1]; exact hi) ⟨w64 (by omega) (by omega), trivial⟩ (by simp [k5])
 have r4 := Aq (j := 3) (vs := [0]) r3 (by rw [w3.1]; exact hi) ⟨rfl, trivial⟩ (by simp [k5])
 unfold putT
 simp only
 split
 ·exact Aq r4 (by rw [w4.1]; omega) ⟨w64 (by omega) (by omega), trivial⟩ (by simp [k5])
 ·exact r4
theorem Ty {S : RL} {k i : Nat} (h : rowsOK k3 S) (hw : Wid S 2049 3) (hk : k < 2049) (hi : i < 4096) (hcc : 0 <= gC S k 2 /\ gC S k 2 <= 4096) : rowsOK k3 (putS S k i) := by
 obtain ⟨S1, e1⟩ : ∃ S1, S1 = if 0 < gC S k 1 then S else setC S k 0 [(i : Int) + 1] := ⟨_, rfl⟩
 have s1 : rowsOK k3 S1 /\ Wid S1 2049 3 /\ gC S1 k 2 = gC S k 2 := by
  rw [e1]
  split
  ·exact ⟨h, hw, rfl⟩
  ·exact ⟨Aq h (by rw [hw.1]; exact hk) ⟨w64 (by omega) (by omega), trivial⟩ (by simp [k3]), hw.set hk (by simp), by rw [hw.c1 hk (by decide), if_neg (by omega)]⟩
 obtain ⟨a1, a2, a3⟩ := s1
 have b1 := Aq (j := 1) (vs := [(i : Int) + 1]) a1 (by rw [a2.1]; exact hk) ⟨w64 (by omega) (by omega), trivial⟩ (by simp [k3])
 have b2 := a2.set (j := 1) (vs := [(i : Int) + 1]) hk (by simp)
 have b3 : gC (setC S1 k 1 [(i : Int) + 1]) k 2 = gC S k 2 := by rw [a2.c1 hk (by decide), if_neg (by omega), a3]
 have e3 : putS S k i = setC (setC S1 k 1 [(i : Int) + 1]) k 2 [gC (setC S1 k 1 [(i : Int) + 1]) k 2 + 1] := by unfold putS; rw [e1]
 rw [e3, b3]
 exact Aq b1 (by rw [b2.1]; exact hk) ⟨w64 (by omega) (by omega), trivial⟩ (by simp [k3])
theorem Uz (now d : Int) : (1 <= lvF now d -> blk (lvF now d) now + 1 < blk (lvF now d) d) /\ (lvF now d < 3 -> blk (lvF now d + 1) d <= blk (lvF now d + 1) now + 1) := by
 unfold lvF
 by_cases h1 : blk 1 d <= blk 1 now + 1
 ·rw [if_pos h1]; exact ⟨fun h => by omega, fun _ => h1⟩
 ·rw [if_neg h1]
  by_cases h2 : blk 2 d <= blk 2 now + 1
  ·rw [if_pos h2]; exact ⟨fun _ => by omega, fun _ => h2⟩
  ·rw [if_neg h2]
   by_cases h3 : blk 3 d <= blk 3 now + 1
   ·rw [if_pos h3]; exact ⟨fun _ => by omega, fun _ => h3⟩
   ·rw [if_neg h3]; exact ⟨fun _ => by omega, fun h => by omega⟩
theorem WOK.put {now bu le w d : Int} {S T : RL} {Q : Nat -> List Nat} {i : Nat} (h : WOK now bu le S T Q w) (hi : i < T.length) (hz : gC T i 4 = 0) (hd : now < d /\ d <= now + 2147483648) :
 WOK now bu (le + 1) (putS S (kW now d).toNat i) (putT T i (lvF now d) (blk (lvF now d) d % 512) d (gC S (kW now d).toNat 1)) (uQ Q (kW now d).toNat (Q (kW now d).toNat ++ [i])) w /\
  (putT T i (lvF now d) (blk (lvF now d) d % 512) d (gC S (kW now d).toNat 1)).length = T.length /\
  (∀ y, y ≠ i -> gC (putT T i (lvF now d) (blk (lvF now d) d % 512) d (gC S (kW now d).toNat 1)) y 0 = gC T y 0 /\ gC (putT T i (lvF now d) (blk (lvF now d) d % 512) d (gC S (kW now d).toNat 1)) y 1 = gC T y 1 /\ gC (putT T i (lvF now d) (blk (lvF now d) d % 512) d (gC S (kW now d).toNat 1)) y 4 = gC T y 4) /\
  gC (putT T i (lvF now d) (blk (lvF now d) d % 512) d (gC S (kW now d).toNat 1)) i 0 = lvF now d /\ gC (putT T i (lvF now d) (blk (lvF now d) d % 512) d (gC S (kW now d).toNat 1)) i 1 = blk (lvF now d) d % 512 /\
  gC (putT T i (lvF now d) (blk (lvF now d) d % 512) d (gC S (kW now d).toNat 1)) i 4 = d := by
 have htm := h.tm
 have hct := h.ct
 have hn : ∀ m, i ∉ Q m := fun m hm => by have := (h.out m i hm).1; omega
 have hkr := Tw now d
 have hlv := GL now d
 obtain ⟨k, ek⟩ : ∃ k, k = (kW now d).toNat := ⟨_, rfl⟩
 have hk : k < 2049 := by omega
 have hb := A2 (lvF now d) (t := d) (by omega)
 obtain ⟨l1, l2⟩ := Uz now d
 obtain ⟨lv, elv⟩ : ∃ lv, lv = lvF now d := ⟨_, rfl⟩
 obtain ⟨ix, eix⟩ : ∃ ix, ix = blk (lvF now d) d % 512 := ⟨_, rfl⟩
 have hixr : 0 <= ix /\ ix < 512 := by omega
 have hkw : kW now d = lv * 512 + ix := by unfold kW; rw [if_neg (by omega), elv, eix]
 rw [<- ek, <- eix, <- elv]
 rw [<- elv] at hlv l1 l2 eix
 obtain ⟨d0, d1, d2⟩ := h.lk.hd k hk
 have hla : gC S k 1 = 0 \/ ∃ a : Nat, a < T.length /\ a ≠ i /\ gC S k 1 = (a : Int) + 1 := by
  rw [d1]
  rcases C6 (Q k) with e | ⟨m, a, e⟩
  ·exact Or.inl (by rw [e]; rfl)
  ·have ha : a ∈ Q k := by rw [e]; simp
   exact Or.inr ⟨a, h.lk.qc k a ha, fun x => hn k (x ▸ ha), by rw [e, Bm]⟩
 have hlar : 0 <= gC S k 1 /\ gC S k 1 <= (T.length : Int) := by rw [d1]; exact ⟨AI _, Cl fun a ha => h.lk.qc _ a ha⟩
 obtain ⟨t1, t2⟩ := MF (lv := lv) (ix := ix) (d := d) h.lk.tw hi hla
 have hlk := h.lk.put (lv := lv) (ix := ix) (d := d) hk hi hn
 obtain ⟨T', eT⟩ : ∃ T', T' = putT T i lv ix d (gC S k 1) := ⟨_, rfl⟩
 have hrT := Tx h.rT h.lk.tw hi hct.2.1 hlv hixr (by omega) hlar (lv := lv) (ix := ix) (d := d)
 rw [<- eT] at t1 t2 hlk hrT ⊢
 have hl : T'.length = T.length := t1.1
 have hy : ∀ y, y ≠ i -> gC T' y 0 = gC T y 0 /\ gC T' y 1 = gC T y 1 /\ gC T' y 4 = gC T y 4 := fun y hy => by
  rw [t2, t2, t2]; simp [hy]
 have g0 : gC T' i 0 = lv := by rw [t2, if_pos ⟨rfl, by decide⟩]; rfl
 have g1 : gC T' i 1 = ix := by rw [t2, if_pos ⟨rfl, by decide⟩]; rfl
 have g4 : gC T' i 4 = d := by rw [t2, if_pos ⟨rfl, by decide⟩]; rfl
 have hloc : ∀ y, y ≠ i -> locI now T' y = locI now T y := fun y hy' => by
  obtain ⟨e0, e1, e4⟩ := hy y hy'
  unfold locI; rw [e0, e1, e4]
 have hlocI : (locI now T' i).toNat = k := by
  unfold locI; rw [g0, g1, g4, if_neg (by omega), ek, hkw]
 refine ⟨⟨htm, h.bg, by rw [hl]; exact hct, Ty h.rS h.lk.sw hk (by omega) (by
  rw [d2]
  have := CL (h.lk.nd k) fun a ha => h.lk.qc _ a ha
  omega), hrT, by rw [hl]; exact hlk, fun y hyl hyd => ?_, fun m y hm => ?_, fun y hyl => ?_, fun y hyl hyd => ?_, ?_, ?_⟩, hl, hy, g0, g1, g4⟩
 ·rw [hl] at hyl
  by_cases he : y = i
  ·subst he; rw [hlocI, AL]; simp
  ·rw [hloc y he]
   rw [(hy y he).2.2] at hyd
   have h1 := h.inn y hyl hyd
   by_cases hk' : (locI now T y).toNat = k
   ·rw [hk', AL]; rw [hk'] at h1; simp [h1]
   ·rw [AU Q _ hk']; exact h1
 ·by_cases hmk : m = k
  ·subst hmk
   rw [AL] at hm
   rcases List.mem_append.1 hm with h1 | h1
   ·have he : y ≠ i := fun e => hn m (e ▸ h1)
    rw [hloc y he, (hy y he).2.2]; exact h.out m y h1
   ·have : y = i := by simpa using h1
    subst this
    exact ⟨by rw [g4]; omega, hlocI⟩
  ·rw [AU Q _ hmk] at hm
   have he : y ≠ i := fun e => hn m (e ▸ hm)
   rw [hloc y he, (hy y he).2.2]; exact h.out m y hm
 ·rw [hl] at hyl
  by_cases he : y = i
  ·subst he; rw [g4]; omega
  ·rw [(hy y he).2.2]; exact h.dr y hyl
 ·rw [hl] at hyl
  by_cases he : y = i
  ·subst he
   rw [g0, g1, g4]
   exact ⟨hlv, eix, fun h1 => by have := l1 h1; omega, l2⟩
  ·obtain ⟨e0, e1, e4⟩ := hy y he
   rw [e4] at hyd
   rw [e0, e1, e4]; exact h.pl y hyl hyd
 ·refine Int.le_trans ?_ h.wt
  unfold cntW
  rw [hl]
  refine Int.ofNat_le.2 (Hv fun y hyl hw => ?_)
  by_cases he : y = i
  ·subst he
   unfold AO at hw
   rw [g0, g4] at hw
   simp only [Bool.and_eq_true, decide_eq_true_eq] at hw
   have := l1 hw.1.2
   omega
  ·obtain ⟨e0, e1, e4⟩ := hy y he
   unfold AO at hw ⊢
   rw [e0, e4] at hw
   exact hw
 ·rw [h.ln]
  unfold cntD
  rw [hl]
  have := Jd (p := fun i => decide (0 < gC T i 4)) (q := fun y => decide (0 < gC T' y 4)) hi fun y _ he => by rw [(hy y he).2.2]
  rw [this]
  have hdp : 0 < d := by omega
  simp only [hz, g4, hdp]
  simp
theorem J0 {lv now : Int} (h : 1 <= lv /\ lv <= 3) (h0 : 0 <= now) : blk lv (now + 1) = blk lv now \/ (now % 256 = 255 /\ blk lv (now + 1) = blk lv now + 1) := by
 have : lv = 1 \/ lv = 2 \/ lv = 3 := by omega
 rcases this with e | e | e <;> subst e <;> simp only [blk1, blk2, blk3] <;> omega
theorem UA {lv now : Int} (h : 1 <= lv /\ lv <= 4) (h0 : 0 <= now) : blk lv now <= blk lv (now + 1) := by
 have : lv = 1 \/ lv = 2 \/ lv = 3 \/ lv = 4 := by omega
 rcases this with e | e | e | e <;> subst e <;> simp only [blk1, blk2, blk3, blk4] <;> omega
theorem Pd {T : RL} {cap : Nat} {f bl : Int} (h : Wid T cap 5) (hf : 0 < f /\ f <= cap) (hb : 0 <= bl /\ bl <= cap) : Wid (joinT T f bl) cap 5 /\ ∀ y j, j ≠ 2 -> j ≠ 3 -> gC (joinT T f bl) y j = gC T y j := by
 have s1 : Wid (if 0 < bl then setC T (bl - 1).toNat 3 [f] else T) cap 5 /\ ∀ y j, j ≠ 3 -> gC (if 0 < bl then setC T (bl - 1).toNat 3 [f] else T) y j = gC T y j := by
  split
  ·exact ⟨h.set (by omega) (by simp), fun y j hj => by rw [h.c1 (by omega) (by decide), if_neg (by omega)]⟩
  ·exact ⟨h, fun _ _ _ => rfl⟩
 unfold joinT
 exact ⟨s1.1.set (by omega) (by simp), fun y j h2 h3 => by rw [s1.1.c1 (by omega) (by decide), if_neg (by omega), s1.2 y j h3]⟩
theorem QY {T : RL} {cap : Nat} {f bl : Int} (hr : rowsOK k5 T) (h : Wid T cap 5) (hc : cap <= 4096) (hf : 0 < f /\ f <= cap) (hb : 0 <= bl /\ bl <= cap) : rowsOK k5 (joinT T f bl) := by
 have s1 : Wid (if 0 < bl then setC T (bl - 1).toNat 3 [f] else T) cap 5 /\ rowsOK k5 (if 0 < bl then setC T (bl - 1).toNat 3 [f] else T) := by
  split
  ·exact ⟨h.set (by omega) (by simp), Aq hr (by rw [h.1]; omega) ⟨w64 (by omega) (by omega), trivial⟩ (by simp [k5])⟩
  ·exact ⟨h, hr⟩
 unfold joinT
 exact Aq s1.2 (by rw [s1.1.1]; omega) ⟨w64 (by omega) (by omega), trivial⟩ (by simp [k5])
theorem QZ {S : RL} {k c : Nat} (hr : rowsOK k3 S) (h : Wid S 2049 3) (hk : k < 2048) (hc : c <= 4096) (h0 : 0 <= gC S k 0 /\ gC S k 0 <= c) (h1 : 0 <= gC S k 1 /\ gC S k 1 <= c) (h2 : 0 <= gC S k 2 /\ gC S k 2 <= c) (h3 : 0 <= gC S 2048 2 /\ gC S 2048 2 <= c) : rowsOK k3 (joinS S k) := by
 obtain ⟨S1, e1⟩ : ∃ S1, S1 = if 0 < gC S 2048 1 then S else setC S 2048 0 [gC S k 0] := ⟨_, rfl⟩
 have s1 : Wid S1 2049 3 /\ rowsOK k3 S1 /\ gC S1 2048 2 = gC S 2048 2 := by
  rw [e1]
  split
  ·exact ⟨h, hr, rfl⟩
  ·exact ⟨h.set (by omega) (by simp), Aq hr (by rw [h.1]; omega) ⟨w64 (by omega) (by omega), trivial⟩ (by simp [k3]), by rw [h.c1 (by omega) (by decide), if_neg (by omega)]⟩
 obtain ⟨a1, a2, a3⟩ := s1
 have b1 := a1.set (i := 2048) (j := 1) (vs := [gC S k 1]) (by omega) (by simp)
 have b2 := Aq (i := 2048) (j := 1) (vs := [gC S k 1]) a2 (by rw [a1.1]; omega) ⟨w64 (by omega) (by omega), trivial⟩ (by simp [k3])
 have b3 : gC (setC S1 2048 1 [gC S k 1]) 2048 2 = gC S 2048 2 := by rw [a1.c1 (by omega) (by decide), if_neg (by omega), a3]
 have c1 := b1.set (i := 2048) (j := 2) (vs := [gC S 2048 2 + gC S k 2]) (by omega) (by simp)
 have c2 := Aq (i := 2048) (j := 2) (vs := [gC S 2048 2 + gC S k 2]) b2 (by rw [b1.1]; omega) ⟨w64 (by omega) (by omega), trivial⟩ (by simp [k3])
 have e3 : joinS S k = setC (setC (setC S1 2048 1 [gC S k 1]) 2048 2 [gC (setC S1 2048 1 [gC S k 1]) 2048 2 + gC S k 2]) k 0 [0, 0, 0] := by unfold joinS; rw [e1]
 rw [e3, b3]
 exact Aq c2 (by rw [c1.1]; omega) ⟨rfl, rfl, rfl, trivial⟩ (by simp [k3])
theorem WOK.loc_lt {now bu le w : Int} {S T : RL} {Q : Nat -> List Nat} (h : WOK now bu le S T Q w) {i : Nat} (hi : i < T.length) (hd : now < gC T i 4) : (locI now T i).toNat < 2048 := by
 have := h.of hi hd
 unfold locI; rw [if_neg (by omega)]; omega
theorem WOK.noWait {now bu le : Int} {S T : RL} {Q : Nat -> List Nat} (h : WOK now bu le S T Q (bu * (255 - now % 256))) (hb : now % 256 = 255) {i : Nat} (hi : i < T.length) : AO now T i = false := by
 have h0 := h.wt
 rw [hb, show (255 : Int) - 255 = 0 by decide, Int.mul_zero] at h0
 cases hw : AO now T i
 ·rfl
 ·have := GM hi hw
  unfold cntW at h0; omega
theorem WOK.due {now bu le : Int} {S T : RL} {Q : Nat -> List Nat} (h : WOK now bu le S T Q (bu * (255 - now % 256))) (i : Nat) : i ∈ Q ((now + 1) % 512).toNat ↔ i < T.length /\ gC T i 4 = now + 1 := by
 have htm := h.tm
 constructor
 ·intro hi
  have hil := h.lk.qc _ i hi
  obtain ⟨o1, o2⟩ := h.out _ i hi
  refine ⟨hil, ?_⟩
  have hd : now < gC T i 4 := by
   by_cases hc : now < gC T i 4
   ·exact hc
   ·unfold locI at o2
    rw [if_pos (by omega)] at o2
    omega
  obtain ⟨p1, p2, p3, p4⟩ := h.pl i hil hd
  obtain ⟨_, _, f3, f4⟩ := h.of hil hd
  unfold locI at o2
  rw [if_neg (by omega)] at o2
  have hl0 : gC T i 0 = 0 := by omega
  rw [hl0] at p2 p4 o2
  have p4' := p4 (by decide)
  rw [blk0] at p2
  rw [show (0 : Int) + 1 = 1 by decide, blk1, blk1] at p4'
  omega
 ·rintro ⟨hil, hd⟩
  obtain ⟨p1, p2, p3, p4⟩ := h.pl i hil (by omega)
  have hl0 : gC T i 0 = 0 := by
   by_cases hc : gC T i 0 = 0
   ·exact hc
   ·exfalso
    have q := p3 (by omega)
    rw [hd] at q
    rcases J0 (lv := gC T i 0) (by omega) htm.1 with e | ⟨e1, e2⟩
    ·omega
    ·have hw := h.noWait e1 hil
     unfold AO at hw
     rw [hd, e2] at hw
     have a1 : now < now + 1 := by omega
     have a2 : 1 <= gC T i 0 := by omega
     simp [a1, a2] at hw
  have hm := h.inn i hil (by omega)
  unfold locI at hm
  rw [if_neg (by omega), p2, hl0, blk0, hd] at hm
  have e : (0 * 512 + (now + 1) % 512).toNat = ((now + 1) % 512).toNat := by omega
  rwa [e] at hm
theorem WOK.join {now bu le : Int} {S T : RL} {Q : Nat -> List Nat} (h : WOK now bu le S T Q (bu * (255 - now % 256))) (hM : now < 1099511627776) {k : Nat} (hk : k = ((now + 1) % 512).toNat) :
 WOK (now + 1) bu le (if gC S k 2 = 0 then S else joinS S k) (if gC S k 2 = 0 then T else joinT T (gC S k 0) (gC S 2048 1)) (uQ (uQ Q 2048 (Q 2048 ++ Q k)) k []) (bu * (256 - (now + 1) % 256)) /\
  (if gC S k 2 = 0 then T else joinT T (gC S k 0) (gC S 2048 1)).length = T.length /\
  ∀ y j, j ≠ 2 -> j ≠ 3 -> gC (if gC S k 2 = 0 then T else joinT T (gC S k 0) (gC S 2048 1)) y j = gC T y j := by
 have htm := h.tm
 have hct := h.ct
 have hdue := h.due
 rw [<- hk] at hdue
 have hk8 : k < 512 := by omega
 obtain ⟨d0, d1, d2⟩ := h.lk.hd k (by omega)
 obtain ⟨b0, b1, b2⟩ := h.lk.hd 2048 (by omega)
 have bnd : ∀ m, (Q m).length <= T.length := fun m => CL (h.lk.nd m) fun a ha => h.lk.qc _ a ha
 have main : Lk (if gC S k 2 = 0 then T else joinT T (gC S k 0) (gC S 2048 1)) (if gC S k 2 = 0 then S else joinS S k) (uQ (uQ Q 2048 (Q 2048 ++ Q k)) k []) T.length /\
  rowsOK k3 (if gC S k 2 = 0 then S else joinS S k) /\ rowsOK k5 (if gC S k 2 = 0 then T else joinT T (gC S k 0) (gC S 2048 1)) /\
  ∀ y j, j ≠ 2 -> j ≠ 3 -> gC (if gC S k 2 = 0 then T else joinT T (gC S k 0) (gC S 2048 1)) y j = gC T y j := by
  by_cases hc : gC S k 2 = 0
  ·have hq : Q k = [] := List.length_eq_zero_iff.1 (by omega)
   have hQ : uQ (uQ Q 2048 (Q 2048 ++ Q k)) k [] = Q := by
    funext m
    unfold uQ
    by_cases h1 : m = k
    ·rw [if_pos h1, h1, hq]
    ·rw [if_neg h1]
     by_cases h2 : m = 2048
     ·rw [if_pos h2, h2, hq, List.append_nil]
     ·rw [if_neg h2]
   simp only [if_pos hc, hQ]
   exact ⟨h.lk, h.rS, h.rT, fun _ _ _ _ => trivial⟩
  ·have hne : Q k ≠ [] := fun e => hc (by rw [d2, e]; rfl)
   simp only [if_neg hc]
   have f0 : 0 < gC S k 0 /\ gC S k 0 <= (T.length : Int) := by
    rw [d0]
    refine ⟨?_, Ei fun a ha => h.lk.qc _ a ha⟩
    cases hq : Q k with
    | nil => exact absurd hq hne
    | cons a r => simp only [headP]; omega
   have f1 : 0 <= gC S k 1 /\ gC S k 1 <= (T.length : Int) := by rw [d1]; exact ⟨AI _, Cl fun a ha => h.lk.qc _ a ha⟩
   have fb : 0 <= gC S 2048 1 /\ gC S 2048 1 <= (T.length : Int) := by rw [b1]; exact ⟨AI _, Cl fun a ha => h.lk.qc _ a ha⟩
   have n1 := bnd k
   have n2 := bnd 2048
   exact ⟨h.lk.join (by omega) hne, QZ h.rS h.lk.sw (by omega) hct.2.1 (by omega) f1 (by omega) (by omega), QY h.rT h.lk.tw hct.2.1 f0 fb, (Pd h.lk.tw f0 fb).2⟩
 obtain ⟨S', eS⟩ : ∃ S', S' = if gC S k 2 = 0 then S else joinS S k := ⟨_, rfl⟩
 obtain ⟨T', eT⟩ : ∃ T', T' = if gC S k 2 = 0 then T else joinT T (gC S k 0) (gC S 2048 1) := ⟨_, rfl⟩
 rw [<- eS, <- eT] at main ⊢
 obtain ⟨m1, m2, m3, m4⟩ := main
 have hl : T'.length = T.length := m1.tw.1
 have g0 := fun y => m4 y 0 (by decide) (by decide)
 have g1 := fun y => m4 y 1 (by decide) (by decide)
 have g4 := fun y => m4 y 4 (by decide) (by decide)
 have hU : ∀ m, uQ (uQ Q 2048 (Q 2048 ++ Q k)) k [] m = if m = k then [] else if m = 2048 then Q 2048 ++ Q k else Q m := fun m => rfl
 have hloc : ∀ y, now + 1 < gC T y 4 -> locI (now + 1) T' y = locI now T y := fun y hd => by
  unfold locI; rw [g0, g1, g4, if_neg (by omega), if_neg (by omega)]
 have hloc2 : ∀ y, gC T y 4 <= now + 1 -> locI (now + 1) T' y = 2048 := fun y hd => by
  unfold locI; rw [g4, if_pos hd]
 refine ⟨⟨by omega, h.bg, by rw [hl]; exact hct, m2, m3, by rw [hl]; exact m1, fun y hyl hyd => ?_, fun m y hm => ?_, fun y hyl => ?_, fun y hyl hyd => ?_, ?_, ?_⟩, hl, m4⟩
 ·rw [hl] at hyl
  rw [g4] at hyd
  by_cases c1 : gC T y 4 <= now + 1
  ·rw [hloc2 y c1, show (2048 : Int).toNat = 2048 from rfl, hU, if_neg (by omega), if_pos rfl]
   by_cases c2 : gC T y 4 <= now
   ·have := h.inn y hyl hyd
    unfold locI at this
    rw [if_pos c2] at this
    exact List.mem_append_left _ this
   ·exact List.mem_append_right _ ((hdue y).2 ⟨hyl, by omega⟩)
  ·have h1 := h.inn y hyl hyd
   have hlt := h.loc_lt hyl (by omega)
   rw [hloc y (by omega), hU, if_neg (fun e => by rw [e] at h1; have := ((hdue y).1 h1).2; omega), if_neg (by omega)]
   exact h1
 ·rw [hU] at hm
  by_cases c1 : m = k
  ·rw [if_pos c1] at hm; cases hm
  ·rw [if_neg c1] at hm
   rw [g4]
   by_cases c2 : m = 2048
   ·rw [if_pos c2] at hm
    rcases List.mem_append.1 hm with h1 | h1
    ·obtain ⟨o1, o2⟩ := h.out _ y h1
     have hyl := h.lk.qc _ y h1
     have : gC T y 4 <= now := by
      by_cases hc : gC T y 4 <= now
      ·exact hc
      ·have := h.loc_lt hyl (by omega); omega
     rw [hloc2 y (by omega)]
     exact ⟨o1, by omega⟩
    ·obtain ⟨e1, e2⟩ := (hdue y).1 h1
     rw [hloc2 y (by omega)]
     exact ⟨by omega, by omega⟩
   ·rw [if_neg c2] at hm
    obtain ⟨o1, o2⟩ := h.out _ y hm
    have hyl := h.lk.qc _ y hm
    have c3 : now < gC T y 4 := by
     by_cases hc : gC T y 4 <= now
     ·unfold locI at o2
      rw [if_pos hc] at o2; omega
     ·omega
    have c4 : gC T y 4 ≠ now + 1 := fun e => c1 (h.lk.dj _ _ y hm ((hdue y).2 ⟨hyl, e⟩))
    rw [hloc y (by omega)]
    exact ⟨o1, o2⟩
 ·rw [hl] at hyl
  rw [g4]
  have := h.dr y hyl
  omega
 ·rw [hl] at hyl
  rw [g4] at hyd
  rw [g0, g1, g4]
  obtain ⟨p1, p2, p3, p4⟩ := h.pl y hyl (by omega)
  refine ⟨p1, p2, fun h1 => ?_, fun h3 => ?_⟩
  ·have q := p3 h1
   rcases J0 (lv := gC T y 0) (by omega) htm.1 with e | ⟨e1, e2⟩
   ·omega
   ·have hw := h.noWait e1 hyl
    have hne : blk (gC T y 0) (gC T y 4) ≠ blk (gC T y 0) now + 1 := fun e => by
     unfold AO at hw
     have a1 : now < gC T y 4 := by omega
     simp [a1, h1, e] at hw
    omega
  ·have q := p4 h3
   have := UA (lv := gC T y 0 + 1) (now := now) (by omega) htm.1
   omega
 ·by_cases hb : now % 256 = 255
  ·have e : (now + 1) % 256 = 0 := by omega
   rw [e]
   have := Oc (AO (now + 1) T') T'.length
   unfold cntW
   rw [hl] at this ⊢
   have h3 := hct.2.2
   rw [Int.mul_comm]
   show _ <= (256 - 0) * bu
   omega
  ·have e : (256 : Int) - (now + 1) % 256 = 255 - now % 256 := by omega
   rw [e]
   refine Int.le_trans ?_ h.wt
   unfold cntW
   rw [hl]
   refine Int.ofNat_le.2 (Hv fun y hyl hw => ?_)
   unfold AO at hw ⊢
   rw [g0, g4] at hw
   simp only [Bool.and_eq_true, decide_eq_true_eq] at hw ⊢
   obtain ⟨⟨w1, w2⟩, w3⟩ := hw
   obtain ⟨p1, _⟩ := h.pl y hyl (by omega)
   rcases J0 (lv := gC T y 0) (by omega) htm.1 with e | ⟨e1, e2⟩
   ·rw [e] at w3
    exact ⟨⟨by omega, w2⟩, w3⟩
   ·exact absurd e1 hb
 ·rw [h.ln]
  unfold cntD
  rw [hl]
  congr 1
  exact EF fun y _ => by rw [g4]
theorem CN {now : Int} {T : RL} {i : Nat} : AO now T i = true ↔ now < gC T i 4 /\ 1 <= gC T i 0 /\ blk (gC T i 0) (gC T i 4) = blk (gC T i 0) now + 1 := by
 unfold AO; simp only [Bool.and_eq_true, decide_eq_true_eq]; exact ⟨fun h => ⟨h.1.1, h.1.2, h.2⟩, fun h => ⟨⟨h.1, h.2.1⟩, h.2.2⟩⟩
theorem WOK.in_wait {now bu le w : Int} {S T : RL} {Q : Nat -> List Nat} (h : WOK now bu le S T Q w) {k : Int} (hk : 1 <= k /\ k <= 3) {i : Nat} (hi : i ∈ Q (wK k now)) : i < T.length /\ AO now T i = true := by
 have htm := h.tm
 have hil := h.lk.qc _ i hi
 obtain ⟨o1, o2⟩ := h.out _ i hi
 have hd : now < gC T i 4 := by
  by_cases hc : now < gC T i 4
  ·exact hc
  ·unfold locI wK at o2
   rw [if_pos (by omega)] at o2
   omega
 have hdr := h.dr i hil
 obtain ⟨p1, p2, p3, p4⟩ := h.pl i hil hd
 obtain ⟨_, _, f3, f4⟩ := h.of hil hd
 unfold locI wK at o2
 rw [if_neg (by omega)] at o2
 have hl0 : gC T i 0 = k := by omega
 refine ⟨hil, CN.2 ⟨hd, by omega, ?_⟩⟩
 rw [hl0] at p2 p3 p4 o2 ⊢
 have q3 := p3 hk.1
 have : k = 1 \/ k = 2 \/ k = 3 := by omega
 rcases this with e | e | e <;> subst e
 ·have q4 := p4 (by decide)
  rw [show (1 : Int) + 1 = 2 by decide, blk2, blk2] at q4
  simp only [blk1] at *
  omega
 ·have q4 := p4 (by decide)
  rw [show (2 : Int) + 1 = 3 by decide, blk3, blk3] at q4
  simp only [blk2] at *
  omega
 ·simp only [blk3] at *
  omega
theorem WOK.wait_in {now bu le w : Int} {S T : RL} {Q : Nat -> List Nat} (h : WOK now bu le S T Q w) {i : Nat} (hi : i < T.length) (hw : AO now T i = true) : ∃ k : Int, (1 <= k /\ k <= 3) /\ i ∈ Q (wK k now) := by
 obtain ⟨w1, w2, w3⟩ := CN.1 hw
 have htm := h.tm
 obtain ⟨p1, p2, _, _⟩ := h.pl i hi w1
 have hm := h.inn i hi (by omega)
 refine ⟨gC T i 0, ⟨w2, p1.2⟩, ?_⟩
 unfold locI at hm
 rw [if_neg (by omega), p2, w3] at hm
 exact hm
theorem WOK.wt_cnt {now bu le w : Int} {S T : RL} {Q : Nat -> List Nat} (h : WOK now bu le S T Q w) {k : Int} (hk : 1 <= k /\ k <= 3) : (gC S (wK k now) 2 = ((Q (wK k now)).length : Int)) /\ gC S (wK k now) 0 = headP (Q (wK k now)) := by
 have hlt : wK k now < 2048 := wK_lt (by omega) hk.2
 obtain ⟨a0, _, a2⟩ := h.lk.hd (wK k now) (by omega)
 exact ⟨a2, a0⟩
theorem WOK.wait_pos {now bu le w : Int} {S T : RL} {Q : Nat -> List Nat} (h : WOK now bu le S T Q w) (hw : wtF S now ≠ 0) : ∃ i : Nat, wtF S now = (i : Int) + 1 /\ i < T.length /\ AO now T i = true := by
 have key : ∀ k : Int, 1 <= k /\ k <= 3 -> 0 < gC S (wK k now) 2 -> ∃ i : Nat, gC S (wK k now) 0 = (i : Int) + 1 /\ i < T.length /\ AO now T i = true := fun k hk hc => by
  obtain ⟨e1, e2⟩ := h.wt_cnt hk
  cases hq : Q (wK k now) with
  | nil => rw [e1, hq] at hc; exact absurd hc (by decide)
  | cons i r =>
    obtain ⟨g1, g2⟩ := h.in_wait hk (i := i) (by rw [hq]; simp)
    exact ⟨i, by rw [e2, hq]; rfl, g1, g2⟩
 unfold wtF at hw ⊢
 by_cases c1 : 0 < gC S (wK 1 now) 2
 ·rw [if_pos c1]; exact key 1 (by decide) c1
 ·rw [if_neg c1] at hw ⊢
  by_cases c2 : 0 < gC S (wK 2 now) 2
  ·rw [if_pos c2]; exact key 2 (by decide) c2
  ·rw [if_neg c2] at hw ⊢
   by_cases c3 : 0 < gC S (wK 3 now) 2
   ·rw [if_pos c3]; exact key 3 (by decide) c3
   ·rw [if_neg c3] at hw; exact absurd rfl hw
theorem WOK.wait_zero {now bu le w : Int} {S T : RL} {Q : Nat -> List Nat} (h : WOK now bu le S T Q w) (hw : wtF S now = 0) : cntW now T = 0 := by
 refine JZ fun i hi => ?_
 cases hc : AO now T i
 ·rfl
 ·exfalso
  obtain ⟨k, hk, hm⟩ := h.wait_in hi hc
  have pos : ∀ k : Int, 1 <= k /\ k <= 3 -> 0 < gC S (wK k now) 2 -> 0 < gC S (wK k now) 0 := fun k hk hc => by
   obtain ⟨e1, e2⟩ := h.wt_cnt hk
   cases hq : Q (wK k now) with
   | nil => rw [e1, hq] at hc; exact absurd hc (by decide)
   | cons i r => rw [e2, hq]; simp only [headP]; omega
  have hpos : 0 < gC S (wK k now) 2 := by
   rw [(h.wt_cnt hk).1]
   have := List.length_pos_of_mem hm
   omega
  unfold wtF at hw
  by_cases c1 : 0 < gC S (wK 1 now) 2
  ·rw [if_pos c1] at hw; have := pos 1 (by decide) c1; omega
  ·rw [if_neg c1] at hw
   by_cases c2 : 0 < gC S (wK 2 now) 2
   ·rw [if_pos c2] at hw; have := pos 2 (by decide) c2; omega
   ·rw [if_neg c2] at hw
    by_cases c3 : 0 < gC S (wK 3 now) 2
    ·rw [if_pos c3] at hw; have := pos 3 (by decide) c3; omega
    ·have : k = 1 \/ k = 2 \/ k = 3 := by omega
     rcases this with e | e | e <;> subst e <;> omega
def mvW (now : Int) (p : RL × RL) : RL × RL :=
 let i := (wtF p.1 now - 1).toNat
 let d := gC p.2 i 4
 let S1 := dropS p.1 (locI now p.2 i).toNat (gC p.2 i 2) (gC p.2 i 3)
 (putS S1 (kW now d).toNat i, putT (dropT p.2 i) i (lvF now d) (blk (lvF now d) d % 512) d (gC S1 (kW now d).toNat 1))
theorem UB {now d lv : Int} (h : 1 <= lv /\ lv <= 3) (hb : blk lv d = blk lv now + 1) : lvF now d < lv := by
 unfold lvF
 have : lv = 1 \/ lv = 2 \/ lv = 3 := by omega
 rcases this with e | e | e <;> subst e
 ·rw [if_pos (by omega)]; decide
 ·split
  ·decide
  ·rw [if_pos (by omega)]; decide
 ·split
  ·decide
  ·split
   ·decide
   ·rw [if_pos (by omega)]; decide
theorem WOK.move {now bu le w : Int} {S T : RL} {Q : Nat -> List Nat} (h : WOK now bu le S T Q w) {i : Nat} (hwt : wtF S now = (i : Int) + 1) (hi : i < T.length) (hw : AO now T i = true) :
 ∃ Q', WOK now bu le (mvW now (S, T)).1 (mvW now (S, T)).2 Q' (w - 1) /\ (mvW now (S, T)).2.length = T.length /\ (∀ y, gC (mvW now (S, T)).2 y 4 = gC T y 4) /\ (∀ y, y ≠ i -> gC (mvW now (S, T)).2 y 0 = gC T y 0) /\ gC (mvW now (S, T)).2 i 0 < gC T i 0 /\ 0 <= gC (mvW now (S, T)).2 i 0 /\ Q' 2048 = Q 2048 := by
 obtain ⟨w1, w2, w3⟩ := CN.1 hw
 have htm := h.tm
 obtain ⟨p1, _, _, _⟩ := h.pl i hi w1
 have hdr := h.dr i hi
 obtain ⟨A, B, hq, k1, k2, k3, k4⟩ := h.drop hi (by omega)
 obtain ⟨S1, eS⟩ : ∃ S1, S1 = dropS S (locI now T i).toNat (gC T i 2) (gC T i 3) := ⟨_, rfl⟩
 obtain ⟨T1, eT⟩ : ∃ T1, T1 = dropT T i := ⟨_, rfl⟩
 obtain ⟨d, ed⟩ : ∃ d, d = gC T i 4 := ⟨_, rfl⟩
 have em : mvW now (S, T) = (putS S1 (kW now d).toNat i, putT T1 i (lvF now d) (blk (lvF now d) d % 512) d (gC S1 (kW now d).toNat 1)) := by
  unfold mvW
  simp only [hwt, show ((i : Int) + 1 - 1).toNat = i by omega]
  rw [<- eS, <- eT, <- ed]
 rw [em]
 rw [<- eS, <- eT] at k1
 rw [<- eT] at k2 k3 k4
 have hlt : (locI now T i).toNat < 2048 := h.loc_lt hi w1
 have hc1 : (cntW now T1 : Int) <= w - 1 := by
  have hu := Jd (p := AO now T) (q := AO now T1) hi fun y _ he => by
   obtain ⟨e0, e1, e4⟩ := k3 y he
   unfold AO; rw [e0, e4]
  have hz : AO now T1 i = false := by
   cases hz : AO now T1 i
   ·rfl
   ·have := (CN.1 hz).1; rw [k4] at this; omega
  rw [hw, hz] at hu
  have := h.wt
  unfold cntW at this ⊢
  rw [k2, hu]
  simp; omega
 have k1' : WOK now bu (le - 1) S1 T1 (uQ Q (locI now T i).toNat (A ++ B)) (w - 1) := { k1 with wt := hc1 }
 obtain ⟨m1, m2, m3, m4, m5, m6⟩ := k1'.put (d := d) (by rw [k2]; exact hi) k4 (by omega)
 have hK : (kW now d).toNat < 2048 := by
  have hb := A2 (lvF now d) (t := d) (by omega)
  have := GL now d
  unfold kW; rw [if_neg (by omega)]; omega
 refine ⟨_, by rw [show le = le - 1 + 1 by omega]; exact m1, by rw [m2, k2], fun y => ?_, fun y hy => ?_, ?_, ?_, ?_⟩
 ·by_cases he : y = i
  ·subst he; rw [m6, ed]
  ·rw [(m3 y he).2.2, (k3 y he).2.2]
 ·rw [(m3 y hy).1, (k3 y hy).1]
 ·rw [m4, ed]; exact UB ⟨w2, p1.2⟩ w3
 ·rw [m4]; exact (GL now d).1
 ·rw [AU _ _ (by omega), AU _ _ (by omega)]
def mvN (now : Int) : Nat -> RL × RL -> (RL × RL) × Int
 | 0, p => (p, 0)
 | n + 1, p => if wtF p.1 now = 0 then (p, 0) else ((mvN now n (mvW now p)).1, (mvN now n (mvW now p)).2 + 1)
def lvSum (T : RL) : Nat -> Int
 | 0 => 0
 | n + 1 => lvSum T n + gC T n 0
theorem IK {T T' : RL} {i : Nat} : ∀ {n : Nat}, i < n -> (∀ y, y ≠ i -> gC T' y 0 = gC T y 0) -> lvSum T' n = lvSum T n - gC T i 0 + gC T' i 0
 | n + 1, hi, h => by
   have hc : ∀ m, m <= i -> lvSum T' m = lvSum T m := fun m hm => by
    induction m with
    | zero => rfl
    | succ m ih => simp only [lvSum]; rw [ih (by omega), h m (by omega)]
   simp only [lvSum]
   by_cases hn : i = n
   ·subst hn; rw [hc i (Nat.le_refl _)]; omega
   ·rw [IK (n := n) (by omega) h, h n (fun e => hn e.symm)]; omega
theorem Jz {T T' : RL} (h : ∀ y, gC T' y 0 = gC T y 0) : ∀ n, lvSum T' n = lvSum T n
 | 0 => rfl
 | n + 1 => by simp only [lvSum]; rw [Jz h n, h n]
theorem Tz {now bu le : Int} : ∀ (n : Nat) (p : RL × RL) (Q : Nat -> List Nat) (w : Int), WOK now bu le p.1 p.2 Q w ->
 ∃ Q', WOK now bu le (mvN now n p).1.1 (mvN now n p).1.2 Q' (if (n : Int) <= w then w - n else 0) /\ 0 <= (mvN now n p).2 /\ (mvN now n p).2 <= n /\ (mvN now n p).1.2.length = p.2.length /\ (∀ y, gC (mvN now n p).1.2 y 4 = gC p.2 y 4) /\
   lvSum (mvN now n p).1.2 p.2.length + (mvN now n p).2 <= lvSum p.2 p.2.length /\ Q' 2048 = Q 2048
 | 0, p, Q, w, h => by
   have h0 := h.wt
   have e : (if ((0 : Nat) : Int) <= w then w - ((0 : Nat) : Int) else 0) = w := by rw [if_pos (by omega)]; omega
   exact ⟨Q, by rw [e]; exact h, by show (0 : Int) <= 0; omega, by show (0 : Int) <= ((0 : Nat) : Int); omega, rfl, fun _ => rfl, by show lvSum p.2 _ + 0 <= _; omega, rfl⟩
 | n + 1, p, Q, w, h => by
   by_cases hz : wtF p.1 now = 0
   ·have hc := h.wait_zero hz
    have e : mvN now (n + 1) p = (p, 0) := if_pos hz
    rw [e]
    have h0 := h.wt
    refine ⟨Q, { h with wt := by rw [hc]; split <;> omega }, by show (0 : Int) <= 0; omega, by show (0 : Int) <= ((n + 1 : Nat) : Int); omega, rfl, fun _ => rfl, by show lvSum p.2 _ + 0 <= _; omega, rfl⟩
   ·obtain ⟨i, hi1, hi2, hi3⟩ := h.wait_pos hz
    obtain ⟨Q1, m1, m2, m3, m4, m5, m6, m7⟩ := h.move hi1 hi2 hi3
    have hw1 : 1 <= w := by
     have := GM hi2 hi3
     have h0 := h.wt
     unfold cntW at h0; omega
    obtain ⟨Q2, r1, r2, r3, r4, r5, r6, r7⟩ := Tz n (mvW now (p.1, p.2)) Q1 (w - 1) m1
    have e : mvN now (n + 1) p = ((mvN now n (mvW now p)).1, (mvN now n (mvW now p)).2 + 1) := if_neg hz
    rw [e]
    have hs := IK (T := p.2) (T' := (mvW now (p.1, p.2)).2) hi2 m4
    rw [m2] at r6
    have ew : (if ((n + 1 : Nat) : Int) <= w then w - ((n + 1 : Nat) : Int) else 0) = if (n : Int) <= w - 1 then w - 1 - n else 0 := by
     by_cases c : (n : Int) <= w - 1
     ·rw [if_pos c, if_pos (by omega)]; omega
     ·rw [if_neg c, if_neg (by omega)]
    refine ⟨Q2, by rw [ew]; exact r1, by show 0 <= (mvN now n (mvW now p)).2 + 1; exact Int.le_add_one r2, ?_, by rw [<- m2]; exact r4, fun y => (r5 y).trans (m3 y), ?_, r7.trans m7⟩
    ·have : (mvN now n (mvW now p)).2 <= n := r3
     show (mvN now n (mvW now p)).2 + 1 <= ((n + 1 : Nat) : Int)
     omega
    ·have : lvSum (mvN now n (mvW now p)).1.2 p.2.length + (mvN now n (mvW now p)).2 <= lvSum (mvW now p).2 p.2.length := r6
     have hs' : lvSum (mvW now p).2 p.2.length = lvSum p.2 p.2.length - gC p.2 i 0 + gC (mvW now p).2 i 0 := hs
     have m5' : gC (mvW now p).2 i 0 < gC p.2 i 0 := m5
     show lvSum (mvN now n (mvW now p)).1.2 p.2.length + ((mvN now n (mvW now p)).2 + 1) <= _
     omega
def joinW (k : Nat) (p : RL × RL) : RL × RL := if gC p.1 k 2 = 0 then p else (joinS p.1 k, joinT p.2 (gC p.1 k 0) (gC p.1 2048 1))
def tickW (now bu : Int) (p : RL × RL) : (RL × RL) × Int := if now = 1099511627776 then (p, 0) else mvN (now + 1) bu.toNat (joinW ((now + 1) % 512).toNat p)
def nowT (now : Int) : Int := if now = 1099511627776 then now else now + 1
theorem WOK.tick {now bu le : Int} {S T : RL} {Q : Nat -> List Nat} (h : WOK now bu le S T Q (bu * (255 - now % 256))) :
 ∃ Q', WOK (nowT now) bu le (tickW now bu (S, T)).1.1 (tickW now bu (S, T)).1.2 Q' (bu * (255 - nowT now % 256)) /\ 0 <= (tickW now bu (S, T)).2 /\ (tickW now bu (S, T)).2 <= bu /\ (tickW now bu (S, T)).1.2.length = T.length /\
   (∀ y, gC (tickW now bu (S, T)).1.2 y 4 = gC T y 4) /\ lvSum (tickW now bu (S, T)).1.2 T.length + (tickW now bu (S, T)).2 <= lvSum T T.length /\
   Q' 2048 = Q 2048 ++ (if now = 1099511627776 then [] else Q ((now + 1) % 512).toNat) := by
 have hb := h.bg
 have htm := h.tm
 by_cases hM : now = 1099511627776
 ·have e1 : tickW now bu (S, T) = ((S, T), 0) := if_pos hM
  have e2 : nowT now = now := if_pos hM
  rw [e1, e2, if_pos hM, List.append_nil]
  exact ⟨Q, h, by show (0 : Int) <= 0; omega, by show (0 : Int) <= bu; omega, rfl, fun _ => rfl, by show lvSum T _ + 0 <= _; omega, rfl⟩
 ·have e2 : nowT now = now + 1 := if_neg hM
  obtain ⟨k, hk⟩ : ∃ k, k = ((now + 1) % 512).toNat := ⟨_, rfl⟩
  obtain ⟨j1, j2, j3⟩ := h.join (by omega) hk
  have ej : joinW k (S, T) = (if gC S k 2 = 0 then S else joinS S k, if gC S k 2 = 0 then T else joinT T (gC S k 0) (gC S 2048 1)) := by
   unfold joinW
   by_cases hc : gC S k 2 = 0 <;> simp [hc]
  have e1 : tickW now bu (S, T) = mvN (now + 1) bu.toNat (joinW k (S, T)) := by rw [hk]; exact if_neg hM
  rw [e1, e2, if_neg hM, <- hk]
  have j1' : WOK (now + 1) bu le (joinW k (S, T)).1 (joinW k (S, T)).2 (uQ (uQ Q 2048 (Q 2048 ++ Q k)) k []) (bu * (256 - (now + 1) % 256)) := by rw [ej]; exact j1
  have j2' : (joinW k (S, T)).2.length = T.length := by rw [ej]; exact j2
  have j3' : ∀ y j, j ≠ 2 -> j ≠ 3 -> gC (joinW k (S, T)).2 y j = gC T y j := by rw [ej]; exact j3
  obtain ⟨Q', r1, r2, r3, r4, r5, r6, r7⟩ := Tz bu.toNat (joinW k (S, T)) _ _ j1'
  have hle : bu <= bu * (256 - (now + 1) % 256) := by
   have : bu * 1 <= bu * (256 - (now + 1) % 256) := Int.mul_le_mul_of_nonneg_left (by omega) (by omega)
   omega
  have ew : (if ((bu.toNat : Nat) : Int) <= bu * (256 - (now + 1) % 256) then bu * (256 - (now + 1) % 256) - ((bu.toNat : Nat) : Int) else 0) = bu * (255 - (now + 1) % 256) := by
   rw [if_pos (by omega), show ((bu.toNat : Nat) : Int) = bu by omega, show (256 : Int) - (now + 1) % 256 = (255 - (now + 1) % 256) + 1 by omega, Int.mul_add, Int.mul_one]
   omega
  rw [ew] at r1
  rw [j2'] at r4 r6
  rw [Jz (T := T) (T' := (joinW k (S, T)).2) (fun y => j3' y 0 (by decide) (by decide))] at r6
  refine ⟨Q', r1, r2, by omega, r4, fun y => (r5 y).trans (j3' y 4 (by decide) (by decide)), r6, ?_⟩
  rw [r7, AU _ _ (by omega), AL]
end
end Go.Proofs.Ytnockichpnaoeaa.Ew
