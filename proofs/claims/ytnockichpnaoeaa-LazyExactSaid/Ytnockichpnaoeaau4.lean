/- Texts that the claim needs, set narrow. -/
import Derived.Test.Ytnockichpnaoeaau3
import Derived.Test.YtnockichpnaoeaaChecked
set_option linter.unusedVariables false
set_option linter.unusedSimpArgs false
namespace Go.Proofs.Ytnockichpnaoeaa.Ew
open Go Go.RowKit
noncomputable section
abbrev vI (i : Nat) : E := .var kJ i
abbrev vX (i : Nat) : E := .var .x i
abbrev lI (n : Int) : E := .lit kJ n
abbrev aI (k j : Nat) (zs : List E) : E := .app kJ k j zs
abbrev aX (k j : Nat) (zs : List E) : E := .app .x k j zs
def rowsOK (ks : List K) (l : RL) : Prop := ∀ r ∈ l, fits ks r
theorem Qh {ks : List K} {c i : Int} (h : rowsOK ks (dc c)) (h0 : 0 <= i) (h1 : i < ((dc c).length : Int)) : ∃ r, (dc c).getD i.toNat [] = r /\ fits ks r /\ r ∈ dc c /\ (dc c).drop i.toNat = r :: (dc c).drop (i + 1).toNat := by
 have hl : i.toNat < (dc c).length := by omega
 refine ⟨(dc c)[i.toNat], by simp [List.getD, hl], h _ (List.getElem_mem hl), List.getElem_mem hl, ?_⟩
 rw [List.drop_eq_getElem_cons hl, show (i + 1).toNat = i.toNat + 1 by omega]
theorem UO {xs : List Int} (h : xs.length = 2) : ∃ a b, xs = [a, b] := by
 match xs, h with
 | [a, b], _ => exact ⟨a, b, rfl⟩
def gC (T : RL) (i j : Nat) : Int := (T.getD i []).getD j 0
def setC (T : RL) (i j : Nat) (vs : List Int) : RL := T.set i (splR (T.getD i []) j vs)
theorem Cj (T : RL) (i j : Nat) (vs : List Int) : (setC T i j vs).length = T.length := by simp [setC]
theorem Mb (T : RL) {i : Nat} (a j : Nat) (vs : List Int) (hi : i < T.length) : (setC T i j vs).getD a [] = if a = i then splR (T.getD i []) j vs else T.getD a [] := by
 unfold setC
 simp only [List.getD_eq_getElem?_getD, List.getElem?_set]
 by_cases h : a = i
 ·subst h; simp [hi]
 ·have h' : ¬ i = a := fun e => h e.symm
  simp [h, h']
theorem VE {r vs : List Int} {j : Nat} (h : j + vs.length <= r.length) : (splR r j vs).length = r.length := by
 unfold splR; simp; omega
theorem VF {r vs : List Int} {j : Nat} (h : j + vs.length <= r.length) (b : Nat) : (splR r j vs).getD b 0 = if b < j then r.getD b 0 else if b < j + vs.length then vs.getD (b - j) 0 else r.getD b 0 := by
 unfold splR
 simp only [List.getD_eq_getElem?_getD]
 by_cases h1 : b < j
 ·rw [if_pos h1, List.append_assoc, List.getElem?_append_left (by simp; omega), List.getElem?_take, if_pos h1]
 ·rw [if_neg h1]
  by_cases h2 : b < j + vs.length
  ·rw [if_pos h2, List.append_assoc, List.getElem?_append_right (by simp; omega), List.getElem?_append_left (by simp; omega)]
   congr 2; simp; omega
  ·rw [if_neg h2, List.getElem?_append_right (by simp; omega), List.getElem?_drop]
   congr 2; simp; omega
theorem UP {T : RL} {i j : Nat} {vs : List Int} (hi : i < T.length) (hj : j + vs.length <= (T.getD i []).length) (a b : Nat) :
 gC (setC T i j vs) a b = if a = i /\ j <= b /\ b < j + vs.length then vs.getD (b - j) 0 else gC T a b := by
 unfold gC
 rw [Mb T a j vs hi]
 by_cases h : a = i
 ·subst h
  rw [if_pos rfl, VF hj]
  by_cases h1 : b < j
  ·rw [if_pos h1, if_neg (by omega)]
  ·rw [if_neg h1]
   by_cases h2 : b < j + vs.length
   ·rw [if_pos h2, if_pos ⟨rfl, by omega, h2⟩]
   ·rw [if_neg h2, if_neg (by omega)]
 ·rw [if_neg h, if_neg (by omega)]
theorem RE {T : RL} {i j : Nat} {v : Int} (hi : i < T.length) (hj : j < (T.getD i []).length) (a b : Nat) :
 gC (setC T i j [v]) a b = if a = i /\ b = j then v else gC T a b := by
 rw [UP hi (by simp only [List.length_cons, List.length_nil]; omega)]
 by_cases h : a = i /\ b = j
 ·rw [if_pos h, if_pos ⟨h.1, by omega, by simp; omega⟩, h.2]; simp
 ·rw [if_neg h, if_neg]
  simp only [List.length_cons, List.length_nil]; omega
def Wid (T : RL) (n w : Nat) : Prop := T.length = n /\ ∀ i < n, (T.getD i []).length = w
theorem Wid.set {T : RL} {n w i j : Nat} {vs : List Int} (h : Wid T n w) (hi : i < n) (hj : j + vs.length <= w) : Wid (setC T i j vs) n w := by
 obtain ⟨h1, h2⟩ := h
 refine ⟨by rw [Cj, h1], fun a ha => ?_⟩
 rw [Mb T a j vs (by omega)]
 split
 ·rw [VE (by rw [h2 i hi]; exact hj), h2 i hi]
 ·exact h2 a ha
theorem Wid.c {T : RL} {n w i j : Nat} {vs : List Int} (h : Wid T n w) (hi : i < n) (hj : j + vs.length <= w) (a b : Nat) : gC (setC T i j vs) a b = if a = i /\ j <= b /\ b < j + vs.length then vs.getD (b - j) 0 else gC T a b :=
 UP (by rw [h.1]; exact hi) (by rw [h.2 i hi]; exact hj) a b
theorem Wid.c1 {T : RL} {n w i j : Nat} {v : Int} (h : Wid T n w) (hi : i < n) (hj : j < w) (a b : Nat) : gC (setC T i j [v]) a b = if a = i /\ b = j then v else gC T a b :=
 RE (by rw [h.1]; exact hi) (by rw [h.2 i hi]; exact hj) a b
def headP : List Nat -> Int
 | [] => 0
 | a :: _ => (a : Int) + 1
def lastP (l : List Nat) : Int := headP l.reverse
theorem BP (l : List Nat) (a : Nat) : lastP (l ++ [a]) = (a : Int) + 1 := by simp [lastP, headP]
theorem UQ : lastP [] = 0 := rfl
theorem EB (l : List Nat) : l = [] \/ ∃ m a, l = m ++ [a] := by
 rcases List.eq_nil_or_concat l with h | ⟨m, a, h⟩
 ·exact Or.inl h
 ·exact Or.inr ⟨m, a, by rw [h]; simp⟩
def uQ (Q : Nat -> List Nat) (k : Nat) (l : List Nat) : Nat -> List Nat := fun m => if m = k then l else Q m
theorem Bp (Q : Nat -> List Nat) (k : Nat) (l : List Nat) : uQ Q k l k = l := if_pos rfl
theorem BR (Q : Nat -> List Nat) {k m : Nat} (l : List Nat) (h : m ≠ k) : uQ Q k l m = Q m := if_neg h
structure Lk (T S : RL) (Q : Nat -> List Nat) (cap : Nat) : Prop where
 tw : Wid T cap 5
 sw : Wid S 2049 3
 qc : ∀ k, ∀ i ∈ Q k, i < cap
 qk : ∀ k, 2049 <= k -> Q k = []
 nd : ∀ k, (Q k).Nodup
 dj : ∀ k m i, i ∈ Q k -> i ∈ Q m -> k = m
 hd : ∀ k < 2049, gC S k 0 = headP (Q k) /\ gC S k 1 = lastP (Q k) /\ gC S k 2 = ((Q k).length : Int)
 ch : ∀ k A i B, Q k = A ++ i :: B -> gC T i 2 = lastP A /\ gC T i 3 = headP B
def dropT (T : RL) (i : Nat) : RL :=
 let p := gC T i 2
 let n := gC T i 3
 let T1 := if 0 < p then setC T (p - 1).toNat 3 [n] else T
 let T2 := if 0 < n then setC T1 (n - 1).toNat 2 [p] else T1
 setC T2 i 0 [0, 0, 0, 0, 0]
def dropS (S : RL) (k : Nat) (p n : Int) : RL :=
 let S1 := if 0 < p then S else setC S k 0 [n]
 let S2 := if 0 < n then S1 else setC S1 k 1 [p]
 setC S2 k 2 [gC S2 k 2 - 1]
theorem Lk.q_lt {T S : RL} {Q : Nat -> List Nat} {cap k i : Nat} (h : Lk T S Q cap) (hi : i ∈ Q k) : k < 2049 := by
 by_cases hk : k < 2049
 ·exact hk
 ·rw [h.qk k (by omega)] at hi; cases hi
theorem Jy {T S : RL} {Q : Nat -> List Nat} {cap k i : Nat} {A B : List Nat} (h : Lk T S Q cap) (hq : Q k = A ++ i :: B) :
 Wid (dropT T i) cap 5 /\ ∀ y j, gC (dropT T i) y j = if y = i /\ j < 5 then 0 else if lastP A = (y : Int) + 1 /\ j = 3 then headP B else if headP B = (y : Int) + 1 /\ j = 2 then lastP A else gC T y j := by
 obtain ⟨c1, c2⟩ := h.ch k A i B hq
 have hic : i < cap := h.qc k i (by rw [hq]; simp)
 have hA : ∀ a ∈ A, a < cap := fun a ha => h.qc k a (by rw [hq]; simp [ha])
 have hB : ∀ a ∈ B, a < cap := fun a ha => h.qc k a (by rw [hq]; simp [ha])
 have hnd := h.nd k
 rw [hq] at hnd
 have hpA : lastP A = 0 \/ ∃ a, a ∈ A /\ lastP A = (a : Int) + 1 := by
  rcases EB A with rfl | ⟨m, a, rfl⟩
  ·exact Or.inl rfl
  ·exact Or.inr ⟨a, by simp, BP m a⟩
 have hpB : headP B = 0 \/ ∃ a, a ∈ B /\ headP B = (a : Int) + 1 := by
  cases B with
  | nil => exact Or.inl rfl
  | cons b r => exact Or.inr ⟨b, by simp, rfl⟩
 obtain ⟨T1, e1⟩ : ∃ T1, T1 = if 0 < lastP A then setC T (lastP A - 1).toNat 3 [headP B] else T := ⟨_, rfl⟩
 have s1 : Wid T1 cap 5 /\ ∀ y j, gC T1 y j = if lastP A = (y : Int) + 1 /\ j = 3 then headP B else gC T y j := by
  rw [e1]
  rcases hpA with e | ⟨a, ha, e⟩
  ·rw [e, if_neg (by decide)]
   exact ⟨h.tw, fun y j => by rw [if_neg (by omega)]⟩
  ·rw [e, if_pos (by omega), show ((a : Int) + 1 - 1).toNat = a by omega]
   refine ⟨h.tw.set (hA a ha) (by simp), fun y j => ?_⟩
   rw [h.tw.c1 (hA a ha) (by decide)]
   by_cases hy : y = a /\ j = 3
   ·rw [if_pos hy, if_pos (by omega)]
   ·rw [if_neg hy, if_neg (by omega)]
 obtain ⟨T2, e2⟩ : ∃ T2, T2 = if 0 < headP B then setC T1 (headP B - 1).toNat 2 [lastP A] else T1 := ⟨_, rfl⟩
 have s2 : Wid T2 cap 5 /\ ∀ y j, gC T2 y j = if headP B = (y : Int) + 1 /\ j = 2 then lastP A else gC T1 y j := by
  rw [e2]
  rcases hpB with e | ⟨a, ha, e⟩
  ·rw [e, if_neg (by decide)]
   exact ⟨s1.1, fun y j => by rw [if_neg (by omega)]⟩
  ·rw [e, if_pos (by omega), show ((a : Int) + 1 - 1).toNat = a by omega]
   refine ⟨s1.1.set (hB a ha) (by simp), fun y j => ?_⟩
   rw [s1.1.c1 (hB a ha) (by decide)]
   by_cases hy : y = a /\ j = 2
   ·rw [if_pos hy, if_pos (by omega)]
   ·rw [if_neg hy, if_neg (by omega)]
 have e3 : dropT T i = setC T2 i 0 [0, 0, 0, 0, 0] := by
  unfold dropT
  simp only [c1, c2]
  rw [e2, e1]
 rw [e3]
 refine ⟨s2.1.set hic (by simp), fun y j => ?_⟩
 rw [s2.1.c hic (by simp)]
 by_cases hy : y = i /\ j < 5
 ·rw [if_pos (by simpa using hy), if_pos hy]
  match j, hy.2 with
  | 0, _ | 1, _ | 2, _ | 3, _ | 4, _ => rfl
 ·rw [if_neg (by simpa using hy), if_neg hy, s2.2, s1.2]
  by_cases g1 : headP B = (y : Int) + 1 /\ j = 2
  ·rw [if_pos g1, if_neg (by omega), if_pos g1]
  ·rw [if_neg g1]
   by_cases g2 : lastP A = (y : Int) + 1 /\ j = 3
   ·rw [if_pos g2, if_pos g2]
   ·rw [if_neg g2, if_neg g2, if_neg g1]
theorem Su {S : RL} {k : Nat} {p n : Int} (h : Wid S 2049 3) (hk : k < 2049) (hp : 0 <= p) (hn : 0 <= n) :
 Wid (dropS S k p n) 2049 3 /\ ∀ m j, gC (dropS S k p n) m j = if m = k /\ j = 2 then gC S k 2 - 1 else if m = k /\ j = 1 /\ n = 0 then p else if m = k /\ j = 0 /\ p = 0 then n else gC S m j := by
 obtain ⟨S1, e1⟩ : ∃ S1, S1 = if 0 < p then S else setC S k 0 [n] := ⟨_, rfl⟩
 have s1 : Wid S1 2049 3 /\ ∀ m j, gC S1 m j = if m = k /\ j = 0 /\ p = 0 then n else gC S m j := by
  rw [e1]
  by_cases hp0 : 0 < p
  ·rw [if_pos hp0]
   exact ⟨h, fun m j => by rw [if_neg (by omega)]⟩
  ·rw [if_neg hp0]
   refine ⟨h.set hk (by simp), fun m j => ?_⟩
   rw [h.c1 hk (by decide)]
   by_cases g : m = k /\ j = 0
   ·rw [if_pos g, if_pos (by omega)]
   ·rw [if_neg g, if_neg (by omega)]
 obtain ⟨S2, e2⟩ : ∃ S2, S2 = if 0 < n then S1 else setC S1 k 1 [p] := ⟨_, rfl⟩
 have s2 : Wid S2 2049 3 /\ ∀ m j, gC S2 m j = if m = k /\ j = 1 /\ n = 0 then p else gC S1 m j := by
  rw [e2]
  by_cases hn0 : 0 < n
  ·rw [if_pos hn0]
   exact ⟨s1.1, fun m j => by rw [if_neg (by omega)]⟩
  ·rw [if_neg hn0]
   refine ⟨s1.1.set hk (by simp), fun m j => ?_⟩
   rw [s1.1.c1 hk (by decide)]
   by_cases g : m = k /\ j = 1
   ·rw [if_pos g, if_pos (by omega)]
   ·rw [if_neg g, if_neg (by omega)]
 have e3 : dropS S k p n = setC S2 k 2 [gC S2 k 2 - 1] := by
  unfold dropS
  rw [e2, e1]
 rw [e3]
 refine ⟨s2.1.set hk (by simp), fun m j => ?_⟩
 rw [s2.1.c1 hk (by decide)]
 by_cases g : m = k /\ j = 2
 ·rw [if_pos g, if_pos g, s2.2, if_neg (by omega), s1.2, if_neg (by omega)]
 ·rw [if_neg g, if_neg g, s2.2, s1.2]
theorem C1 (l : List Nat) : 0 <= headP l := by cases l <;> simp [headP]; omega
theorem AW (l : List Nat) : 0 <= lastP l := C1 _
theorem Ku {l : List Nat} {y : Nat} (h : headP l = (y : Int) + 1) : y ∈ l := by
 cases l with
 | nil => simp [headP] at h; omega
 | cons a r => simp only [headP] at h; have : a = y := by omega
               subst this; simp
theorem CL {l : List Nat} {y : Nat} (h : lastP l = (y : Int) + 1) : y ∈ l := by
 have := Ku h
 simpa using this
theorem HU {A : List Nat} (B : List Nat) (h : A ≠ []) : headP (A ++ B) = headP A := by
 cases A with
 | nil => exact absurd rfl h
 | cons a r => rfl
theorem Cb (A : List Nat) {B : List Nat} (h : B ≠ []) : lastP (A ++ B) = lastP B := by
 rcases EB B with rfl | ⟨m, a, rfl⟩
 ·exact absurd rfl h
 ·rw [<- List.append_assoc, BP, BP]
theorem FG (i : Nat) {B : List Nat} (h : B ≠ []) : lastP (i :: B) = lastP B := Cb [i] h
theorem M6 {l : List Nat} : headP l = 0 ↔ l = [] := by
 cases l with
 | nil => simp [headP]
 | cons a r => simp [headP]; omega
theorem Jz {l : List Nat} : lastP l = 0 ↔ l = [] := by
 unfold lastP; rw [M6]; simp
theorem Lk.drop {T S : RL} {Q : Nat -> List Nat} {cap k i : Nat} {A B : List Nat} (h : Lk T S Q cap) (hq : Q k = A ++ i :: B) :
 Lk (dropT T i) (dropS S k (gC T i 2) (gC T i 3)) (uQ Q k (A ++ B)) cap := by
 obtain ⟨t1, t2⟩ := Jy h hq
 obtain ⟨c1, c2⟩ := h.ch k A i B hq
 have hk := h.q_lt (k := k) (i := i) (by rw [hq]; simp)
 obtain ⟨s1, s2⟩ := Su h.sw hk (p := gC T i 2) (n := gC T i 3) (by rw [c1]; exact AW _) (by rw [c2]; exact C1 _)
 have hnd := h.nd k
 rw [hq] at hnd
 obtain ⟨n1, n2, n3⟩ := List.nodup_append.1 hnd
 obtain ⟨n4, n5⟩ := List.nodup_cons.1 n2
 have hiA : i ∉ A := fun hA => n3 i hA i (by simp) rfl
 have hAB : ∀ x, x ∈ A -> x ∈ B -> False := fun x hA hB => n3 x hA x (by simp [hB]) rfl
 have q2 : ∀ y, y ≠ i -> gC (dropT T i) y 2 = if headP B = (y : Int) + 1 then lastP A else gC T y 2 := fun y hy => by rw [t2]; simp [hy]
 have q3 : ∀ y, y ≠ i -> gC (dropT T i) y 3 = if lastP A = (y : Int) + 1 then headP B else gC T y 3 := fun y hy => by rw [t2]; simp [hy]
 have sub : ∀ m x, x ∈ uQ Q k (A ++ B) m -> x ∈ Q m /\ x ≠ i := fun m x hx => by
  by_cases hm : m = k
  ·subst hm
   rw [Bp] at hx
   rcases List.mem_append.1 hx with hx | hx
   ·exact ⟨by rw [hq]; simp [hx], fun e => hiA (e ▸ hx)⟩
   ·exact ⟨by rw [hq]; simp [hx], fun e => n4 (e ▸ hx)⟩
  ·rw [BR Q _ hm] at hx
   exact ⟨hx, fun e => hm (h.dj m k i (e ▸ hx) (by rw [hq]; simp))⟩
 refine ⟨t1, s1, fun m x hx => h.qc m x (sub m x hx).1, fun m hm => ?_, fun m => ?_, fun m m' x h1 h2 => h.dj _ _ x (sub m x h1).1 (sub m' x h2).1, fun m hm => ?_, fun m A' y B' hy => ?_⟩
 ·rw [BR Q _ (by omega)]; exact h.qk m hm
 ·by_cases hm : m = k
  ·subst hm
   rw [Bp]
   exact List.Nodup.sublist (List.Sublist.append (List.Sublist.refl A) (List.sublist_cons_self i B)) hnd
  ·rw [BR Q _ hm]; exact h.nd m
 ·by_cases hmk : m = k
  ·subst hmk
   obtain ⟨d0, d1, d2⟩ := h.hd m hm
   rw [Bp, s2, s2, s2]
   rw [hq] at d0 d1 d2
   refine ⟨?_, ?_, ?_⟩
   ·rw [if_neg (by omega), if_neg (by omega)]
    by_cases hA : A = []
    ·subst hA
     rw [if_pos ⟨rfl, rfl, by rw [c1]; rfl⟩, c2]; rfl
    ·rw [if_neg (fun g => hA (Jz.1 (by rw [<- c1]; exact g.2.2))), d0, HU _ hA, HU _ hA]
   ·rw [if_neg (by omega)]
    by_cases hB : B = []
    ·subst hB
     rw [if_pos ⟨rfl, rfl, by rw [c2]; rfl⟩, c1, List.append_nil]
    ·rw [if_neg (fun g => hB (M6.1 (by rw [<- c2]; exact g.2.2))), if_neg (by omega), d1, Cb _ (by simp), Cb _ hB, FG _ hB]
   ·rw [if_pos ⟨rfl, rfl⟩, d2]; simp; omega
  ·rw [BR Q _ hmk, s2, s2, s2]
   simp only [hmk, false_and, if_false]
   exact h.hd m hm
 ·by_cases hm : m = k
  ·subst hm
   rw [Bp] at hy
   have alpha : ∀ C, B = C ++ y :: B' -> A' = A ++ C -> gC (dropT T i) y 2 = lastP A' /\ gC (dropT T i) y 3 = headP B' := fun C e1 e2 => by
    have hyB : y ∈ B := by rw [e1]; simp
    have hyi : y ≠ i := fun e => n4 (e ▸ hyB)
    obtain ⟨o1, o2⟩ := h.ch m (A ++ i :: C) y B' (by rw [hq, e1]; simp)
    rw [q2 y hyi, q3 y hyi, if_neg (c := lastP A = (y : Int) + 1) (fun g => hAB y (CL g) hyB)]
    refine ⟨?_, o2⟩
    cases C with
    | nil => rw [if_pos (by rw [e1]; rfl), e2, List.append_nil]
    | cons c C' =>
      have hcy : c ≠ y := by
       intro e
       rw [e1, e] at n5
       simp at n5
      rw [if_neg (fun g => hcy (by rw [e1] at g; simp only [List.cons_append, headP] at g; omega)), o1, e2, Cb _ (by simp), Cb _ (by simp), FG _ (by simp)]
   rcases List.append_eq_append_iff.1 hy with ⟨C, e1, e2⟩ | ⟨C, e1, e2⟩
   ·exact alpha C e2 e1
   ·cases C with
    | nil => exact alpha [] (by simpa using e2.symm) (by simpa using e1.symm)
    | cons c C' =>
      simp only [List.cons_append, List.cons.injEq] at e2
      obtain ⟨rfl, e2⟩ := e2
      have hyA : y ∈ A := by rw [e1]; simp
      have hyi : y ≠ i := fun e => hiA (e ▸ hyA)
      obtain ⟨o1, o2⟩ := h.ch m A' y (C' ++ i :: B) (by rw [hq, e1]; simp)
      rw [q2 y hyi, q3 y hyi, if_neg (c := headP B = (y : Int) + 1) (fun g => hAB y hyA (Ku g))]
      refine ⟨o1, ?_⟩
      cases C' with
      | nil => rw [if_pos (by rw [e1, BP]), e2]; rfl
      | cons c' C'' =>
        have hl : lastP A ≠ (y : Int) + 1 := fun g => by
         rw [e1, Cb _ (by simp), FG _ (by simp)] at g
         have hm' := CL g
         rw [e1] at n1
         have := (List.nodup_append.1 n1).2.1
         exact (List.nodup_cons.1 this).1 hm'
        rw [if_neg hl, o2, e2]; rfl
  ·rw [BR Q _ hm] at hy
   have hyQ : y ∈ Q m := by rw [hy]; simp
   have hne : ∀ x, x ∈ Q m -> x ∈ Q k -> False := fun x h1 h2 => hm (h.dj m k x h1 h2)
   have hyi : y ≠ i := fun e => hne y hyQ (by rw [hq, e]; simp)
   rw [q2 y hyi, q3 y hyi, if_neg (c := headP B = (y : Int) + 1) (fun g => hne y hyQ (by rw [hq]; simp [Ku g])), if_neg (c := lastP A = (y : Int) + 1) (fun g => hne y hyQ (by rw [hq]; simp [CL g]))]
   exact h.ch m A' y B' hy
def putT (T : RL) (i : Nat) (lv ix d la : Int) : RL :=
 let T1 := setC (setC T i 0 [lv, ix]) i 4 [d]
 let T2 := setC (setC T1 i 2 [la]) i 3 [0]
 if 0 < la then setC T2 (la - 1).toNat 3 [(i : Int) + 1] else T2
def putS (S : RL) (k i : Nat) : RL :=
 let S1 := if 0 < gC S k 1 then S else setC S k 0 [(i : Int) + 1]
 let S2 := setC S1 k 1 [(i : Int) + 1]
 setC S2 k 2 [gC S2 k 2 + 1]
theorem O3 {T : RL} {cap i : Nat} {lv ix d la : Int} (h : Wid T cap 5) (hi : i < cap) (hla : la = 0 \/ ∃ a : Nat, a < cap /\ a ≠ i /\ la = (a : Int) + 1) :
 Wid (putT T i lv ix d la) cap 5 /\ ∀ y j, gC (putT T i lv ix d la) y j = if y = i /\ j < 5 then [lv, ix, la, 0, d].getD j 0 else if la = (y : Int) + 1 /\ j = 3 then (i : Int) + 1 else gC T y j := by
 have w1 := h.set (vs := [lv, ix]) (j := 0) hi (by simp)
 have w2 := w1.set (vs := [d]) (j := 4) hi (by simp)
 have w3 := w2.set (vs := [la]) (j := 2) hi (by simp)
 have w4 := w3.set (vs := [0]) (j := 3) hi (by simp)
 have g4 : ∀ y j, gC (setC (setC (setC (setC T i 0 [lv, ix]) i 4 [d]) i 2 [la]) i 3 [0]) y j = if y = i /\ j < 5 then [lv, ix, la, 0, d].getD j 0 else gC T y j := fun y j => by
  rw [w3.c1 hi (by decide), w2.c1 hi (by decide), w1.c1 hi (by decide), h.c hi (by simp)]
  by_cases hy : y = i
  ·subst hy
   match j with
   | 0 | 1 | 2 | 3 | 4 => simp
   | j + 5 =>
     rw [if_neg (by omega), if_neg (by omega), if_neg (by omega), if_neg (by simp), if_neg (by omega)]
  ·simp [hy]
 unfold putT
 simp only
 rcases hla with rfl | ⟨a, ha, hai, rfl⟩
 ·rw [if_neg (by decide)]
  refine ⟨w4, fun y j => ?_⟩
  rw [g4, if_neg (c := (0 : Int) = (y : Int) + 1 /\ j = 3) (by omega)]
 ·rw [if_pos (by omega), show ((a : Int) + 1 - 1).toNat = a by omega]
  refine ⟨w4.set ha (by simp), fun y j => ?_⟩
  rw [w4.c1 ha (by decide), g4]
  by_cases hy : y = a /\ j = 3
  ·rw [if_pos hy, if_neg (by omega), if_pos (by omega)]
  ·rw [if_neg hy]
   by_cases hz : y = i /\ j < 5
   ·rw [if_pos hz, if_pos hz]
   ·rw [if_neg hz, if_neg hz, if_neg (by omega)]
theorem UR {S : RL} {k i : Nat} (h : Wid S 2049 3) (hk : k < 2049) (hla : 0 <= gC S k 1) :
 Wid (putS S k i) 2049 3 /\ ∀ m j, gC (putS S k i) m j = if m = k /\ j = 2 then gC S k 2 + 1 else if m = k /\ j = 1 then (i : Int) + 1 else if m = k /\ j = 0 /\ gC S k 1 = 0 then (i : Int) + 1 else gC S m j := by
 obtain ⟨S1, e1⟩ : ∃ S1, S1 = if 0 < gC S k 1 then S else setC S k 0 [(i : Int) + 1] := ⟨_, rfl⟩
 have s1 : Wid S1 2049 3 /\ ∀ m j, gC S1 m j = if m = k /\ j = 0 /\ gC S k 1 = 0 then (i : Int) + 1 else gC S m j := by
  rw [e1]
  by_cases hp0 : 0 < gC S k 1
  ·rw [if_pos hp0]
   exact ⟨h, fun m j => by rw [if_neg (by omega)]⟩
  ·rw [if_neg hp0]
   refine ⟨h.set hk (by simp), fun m j => ?_⟩
   rw [h.c1 hk (by decide)]
   by_cases g : m = k /\ j = 0
   ·rw [if_pos g, if_pos (by omega)]
   ·rw [if_neg g, if_neg (by omega)]
 have w2 := s1.1.set (vs := [(i : Int) + 1]) (j := 1) hk (by simp)
 have e3 : putS S k i = setC (setC S1 k 1 [(i : Int) + 1]) k 2 [gC (setC S1 k 1 [(i : Int) + 1]) k 2 + 1] := by
  unfold putS
  rw [e1]
 rw [e3]
 refine ⟨w2.set hk (by simp), fun m j => ?_⟩
 rw [w2.c1 hk (by decide), s1.1.c1 hk (by decide), s1.1.c1 hk (by decide), s1.2, s1.2]
 by_cases g : m = k /\ j = 2
 ·rw [if_pos g, if_pos g, if_neg (by omega), if_neg (by omega)]
 ·rw [if_neg g, if_neg g]
theorem Lk.put {T S : RL} {Q : Nat -> List Nat} {cap k i : Nat} {lv ix d : Int} (h : Lk T S Q cap) (hk : k < 2049) (hi : i < cap) (hn : ∀ m, i ∉ Q m) :
 Lk (putT T i lv ix d (gC S k 1)) (putS S k i) (uQ Q k (Q k ++ [i])) cap := by
 obtain ⟨d0, d1, d2⟩ := h.hd k hk
 have hla : gC S k 1 = 0 \/ ∃ a : Nat, a < cap /\ a ≠ i /\ gC S k 1 = (a : Int) + 1 := by
  rw [d1]
  rcases EB (Q k) with e | ⟨m, a, e⟩
  ·exact Or.inl (by rw [e]; rfl)
  ·have ha : a ∈ Q k := by rw [e]; simp
   exact Or.inr ⟨a, h.qc k a ha, fun x => hn k (x ▸ ha), by rw [e, BP]⟩
 obtain ⟨t1, t2⟩ := O3 (lv := lv) (ix := ix) (d := d) h.tw hi hla
 obtain ⟨s1, s2⟩ := UR (i := i) h.sw hk (by rw [d1]; exact AW _)
 have sub : ∀ m x, x ∈ uQ Q k (Q k ++ [i]) m -> x ∈ Q m \/ (x = i /\ m = k) := fun m x hx => by
  by_cases hm : m = k
  ·subst hm
   rw [Bp] at hx
   rcases List.mem_append.1 hx with hx | hx
   ·exact Or.inl hx
   ·exact Or.inr ⟨by simpa using hx, rfl⟩
  ·rw [BR Q _ hm] at hx; exact Or.inl hx
 refine ⟨t1, s1, fun m x hx => ?_, fun m hm => ?_, fun m => ?_, fun m m' x h1 h2 => ?_, fun m hm => ?_, fun m A' y B' hy => ?_⟩
 ·rcases sub m x hx with h1 | ⟨rfl, _⟩
  ·exact h.qc m x h1
  ·exact hi
 ·rw [BR Q _ (by omega)]; exact h.qk m hm
 ·by_cases hm : m = k
  ·subst hm
   rw [Bp]
   refine List.nodup_append.2 ⟨h.nd m, by simp, fun a ha b hb e => ?_⟩
   have : b = i := by simpa using hb
   exact hn m (by rw [<- this, <- e]; exact ha)
  ·rw [BR Q _ hm]; exact h.nd m
 ·rcases sub m x h1 with g1 | ⟨e1, g1⟩
  ·rcases sub m' x h2 with g2 | ⟨e2, g2⟩
   ·exact h.dj m m' x g1 g2
   ·exact absurd (e2 ▸ g1) (hn m)
  ·rcases sub m' x h2 with g2 | ⟨e2, g2⟩
   ·exact absurd (e1 ▸ g2) (hn m')
   ·rw [g1, g2]
 ·by_cases hmk : m = k
  ·subst hmk
   rw [Bp, s2, s2, s2]
   refine ⟨?_, ?_, ?_⟩
   ·rw [if_neg (by omega), if_neg (by omega)]
    by_cases hA : Q m = []
    ·rw [if_pos ⟨rfl, rfl, by rw [d1, hA]; rfl⟩, hA]; rfl
    ·rw [if_neg (fun g => hA (Jz.1 (by rw [<- d1]; exact g.2.2))), d0, HU _ hA]
   ·rw [if_neg (by omega), if_pos ⟨rfl, rfl⟩, BP]
   ·rw [if_pos ⟨rfl, rfl⟩, d2]; simp
  ·rw [BR Q _ hmk, s2, s2, s2]
   simp only [hmk, false_and, if_false]
   exact h.hd m hm
 ·have q2 : y ≠ i -> gC (putT T i lv ix d (gC S k 1)) y 2 = gC T y 2 := fun hyi => by rw [t2]; simp [hyi]
  have q3 : y ≠ i -> gC (putT T i lv ix d (gC S k 1)) y 3 = if gC S k 1 = (y : Int) + 1 then (i : Int) + 1 else gC T y 3 := fun hyi => by rw [t2]; simp [hyi]
  by_cases hm : m = k
  ·subst hm
   rw [Bp] at hy
   rcases EB B' with rfl | ⟨B'', z, rfl⟩
   ·have e := List.append_inj_right' hy rfl
    have e' := List.append_inj_left' hy rfl
    have : i = y := by simpa using e
    subst this
    rw [t2, t2, if_pos ⟨rfl, by decide⟩, if_pos ⟨rfl, by decide⟩, <- e', d1]
    exact ⟨rfl, rfl⟩
   ·have hy' : Q m ++ [i] = (A' ++ y :: B'') ++ [z] := by rw [hy]; simp
    have e' := List.append_inj_left' hy' rfl
    have e : i = z := by simpa using List.append_inj_right' hy' rfl
    subst e
    have hyQ : y ∈ Q m := by rw [e']; simp
    have hyi : y ≠ i := fun e => hn m (e ▸ hyQ)
    obtain ⟨o1, o2⟩ := h.ch m A' y B'' e'
    rw [q2 hyi, q3 hyi, d1]
    refine ⟨o1, ?_⟩
    cases B'' with
    | nil => rw [if_pos (by rw [e', BP])]; rfl
    | cons c C =>
      have hl : lastP (Q m) ≠ (y : Int) + 1 := fun g => by
       rw [e', Cb _ (by simp), FG _ (by simp)] at g
       have hm' := CL g
       have := h.nd m
       rw [e'] at this
       exact (List.nodup_cons.1 (List.nodup_append.1 this).2.1).1 hm'
      rw [if_neg hl, o2]; rfl
  ·rw [BR Q _ hm] at hy
   have hyQ : y ∈ Q m := by rw [hy]; simp
   have hyi : y ≠ i := fun e => hn m (e ▸ hyQ)
   rw [q2 hyi, q3 hyi, if_neg (fun g => hm (h.dj m k y hyQ (CL (by rw [<- d1]; exact g))))]
   exact h.ch m A' y B' hy
def joinT (T : RL) (f bl : Int) : RL := setC (if 0 < bl then setC T (bl - 1).toNat 3 [f] else T) (f - 1).toNat 2 [bl]
def joinS (S : RL) (k : Nat) : RL :=
 let S1 := if 0 < gC S 2048 1 then S else setC S 2048 0 [gC S k 0]
 let S2 := setC S1 2048 1 [gC S k 1]
 setC (setC S2 2048 2 [gC S2 2048 2 + gC S k 2]) k 0 [0, 0, 0]
theorem Lk.join {T S : RL} {Q : Nat -> List Nat} {cap k : Nat} (h : Lk T S Q cap) (hk : k < 2048) (hne : Q k ≠ []) :
 Lk (joinT T (gC S k 0) (gC S 2048 1)) (joinS S k) (uQ (uQ Q 2048 (Q 2048 ++ Q k)) k []) cap := by
 obtain ⟨d0, d1, d2⟩ := h.hd k (by omega)
 obtain ⟨b0, b1, b2⟩ := h.hd 2048 (by omega)
 obtain ⟨f, F, hF⟩ : ∃ f F, Q k = f :: F := by
  cases hq : Q k with
  | nil => exact absurd hq hne
  | cons f F => exact ⟨f, F, rfl⟩
 have ef : gC S k 0 = (f : Int) + 1 := by rw [d0, hF]; rfl
 have hfk : f ∈ Q k := by rw [hF]; simp
 have hfc := h.qc k f hfk
 have dis : ∀ x, x ∈ Q k -> x ∈ Q 2048 -> False := fun x h1 h2 => by have := h.dj _ _ x h1 h2; omega
 have t : Wid (joinT T (gC S k 0) (gC S 2048 1)) cap 5 /\ ∀ y j, gC (joinT T (gC S k 0) (gC S 2048 1)) y j = if y = f /\ j = 2 then lastP (Q 2048) else if lastP (Q 2048) = (y : Int) + 1 /\ j = 3 then (f : Int) + 1 else gC T y j := by
  unfold joinT
  rw [ef, b1, show ((f : Int) + 1 - 1).toNat = f by omega]
  rcases EB (Q 2048) with e | ⟨m, a, e⟩
  ·rw [e, UQ, if_neg (by decide)]
   refine ⟨h.tw.set hfc (by simp), fun y j => ?_⟩
   rw [h.tw.c1 hfc (by decide), if_neg (c := (0 : Int) = (y : Int) + 1 /\ j = 3) (by omega)]
  ·have ha : a ∈ Q 2048 := by rw [e]; simp
   rw [e, BP, if_pos (by omega), show ((a : Int) + 1 - 1).toNat = a by omega]
   have w := h.tw.set (vs := [(f : Int) + 1]) (j := 3) (h.qc _ a ha) (by simp)
   refine ⟨w.set hfc (by simp), fun y j => ?_⟩
   rw [w.c1 hfc (by decide), h.tw.c1 (h.qc _ a ha) (by decide)]
   by_cases g : y = a /\ j = 3
   ·rw [if_neg (c := y = f /\ j = 2) (by omega), if_pos g, if_neg (c := y = f /\ j = 2) (by omega), if_pos (by omega)]
   ·rw [if_neg (c := y = a /\ j = 3) g, if_neg (c := (a : Int) + 1 = (y : Int) + 1 /\ j = 3) (by omega)]
 obtain ⟨t1, t2⟩ := t
 have sS : Wid (joinS S k) 2049 3 /\ ∀ m j, gC (joinS S k) m j = if m = k /\ j < 3 then 0 else if m = 2048 /\ j = 2 then gC S 2048 2 + gC S k 2 else if m = 2048 /\ j = 1 then gC S k 1 else if m = 2048 /\ j = 0 /\ gC S 2048 1 = 0 then gC S k 0 else gC S m j := by
  obtain ⟨S1, e1⟩ : ∃ S1, S1 = if 0 < gC S 2048 1 then S else setC S 2048 0 [gC S k 0] := ⟨_, rfl⟩
  have s1 : Wid S1 2049 3 /\ ∀ m j, gC S1 m j = if m = 2048 /\ j = 0 /\ gC S 2048 1 = 0 then gC S k 0 else gC S m j := by
   rw [e1]
   have hla : 0 <= gC S 2048 1 := by rw [b1]; exact AW _
   by_cases hp0 : 0 < gC S 2048 1
   ·rw [if_pos hp0]
    exact ⟨h.sw, fun m j => by rw [if_neg (by omega)]⟩
   ·rw [if_neg hp0]
    refine ⟨h.sw.set (by omega) (by simp), fun m j => ?_⟩
    rw [h.sw.c1 (by omega) (by decide)]
    by_cases g : m = 2048 /\ j = 0
    ·rw [if_pos g, if_pos (by omega)]
    ·rw [if_neg g, if_neg (by omega)]
  have w2 := s1.1.set (i := 2048) (vs := [gC S k 1]) (j := 1) (by omega) (by simp)
  have w3 := w2.set (i := 2048) (vs := [gC (setC S1 2048 1 [gC S k 1]) 2048 2 + gC S k 2]) (j := 2) (by omega) (by simp)
  have e3 : joinS S k = setC (setC (setC S1 2048 1 [gC S k 1]) 2048 2 [gC (setC S1 2048 1 [gC S k 1]) 2048 2 + gC S k 2]) k 0 [0, 0, 0] := by
   unfold joinS
   rw [e1]
  rw [e3]
  refine ⟨w3.set (by omega) (by simp), fun m j => ?_⟩
  rw [w3.c (by omega) (by simp), w2.c1 (by omega) (by decide), s1.1.c1 (by omega) (by decide), s1.1.c1 (by omega) (by decide), s1.2, s1.2]
  by_cases g : m = k /\ j < 3
  ·rw [if_pos (by simpa using g), if_pos g]
   match j, g.2 with
   | 0, _ | 1, _ | 2, _ => rfl
  ·rw [if_neg (by simpa using g), if_neg g]
   by_cases g2 : m = 2048 /\ j = 2
   ·rw [if_pos g2, if_pos g2, if_neg (by omega), if_neg (by omega)]
   ·rw [if_neg g2, if_neg g2]
 obtain ⟨s1, s2⟩ := sS
 have hU : ∀ m, uQ (uQ Q 2048 (Q 2048 ++ Q k)) k [] m = if m = k then [] else if m = 2048 then Q 2048 ++ Q k else Q m := fun m => rfl
 have sub : ∀ m x, x ∈ uQ (uQ Q 2048 (Q 2048 ++ Q k)) k [] m -> m ≠ k /\ ((m = 2048 /\ (x ∈ Q 2048 \/ x ∈ Q k)) \/ (m ≠ 2048 /\ x ∈ Q m)) := fun m x hx => by
  rw [hU] at hx
  by_cases hm : m = k
  ·rw [if_pos hm] at hx; cases hx
  ·rw [if_neg hm] at hx
   refine ⟨hm, ?_⟩
   by_cases hm' : m = 2048
   ·rw [if_pos hm'] at hx
    exact Or.inl ⟨hm', List.mem_append.1 hx⟩
   ·rw [if_neg hm'] at hx; exact Or.inr ⟨hm', hx⟩
 have ndB : (Q 2048 ++ Q k).Nodup := List.nodup_append.2 ⟨h.nd _, h.nd _, fun a ha b hb e => dis b hb (e ▸ ha)⟩
 refine ⟨t1, s1, fun m x hx => ?_, fun m hm => ?_, fun m => ?_, fun m m' x h1 h2 => ?_, fun m hm => ?_, fun m A' y B' hy => ?_⟩
 ·rcases (sub m x hx).2 with ⟨_, h1 | h1⟩ | ⟨_, h1⟩ <;> exact h.qc _ x h1
 ·rw [hU, if_neg (by omega), if_neg (by omega)]; exact h.qk m hm
 ·rw [hU]
  by_cases hm : m = k
  ·rw [if_pos hm]; exact List.nodup_nil
  ·rw [if_neg hm]
   by_cases hm' : m = 2048
   ·rw [if_pos hm']; exact ndB
   ·rw [if_neg hm']; exact h.nd m
 ·obtain ⟨n1, g1⟩ := sub m x h1
  obtain ⟨n2, g2⟩ := sub m' x h2
  rcases g1 with ⟨e1, g1 | g1⟩ | ⟨e1, g1⟩ <;> rcases g2 with ⟨e2, g2 | g2⟩ | ⟨e2, g2⟩
  ·rw [e1, e2]
  ·rw [e1, e2]
  ·exact absurd (h.dj _ _ x g1 g2).symm e2
  ·rw [e1, e2]
  ·rw [e1, e2]
  ·exact absurd (h.dj _ _ x g1 g2).symm n2
  ·exact absurd (h.dj _ _ x g1 g2) e1
  ·exact absurd (h.dj _ _ x g1 g2) n1
  ·exact h.dj _ _ x g1 g2
 ·rw [hU, s2, s2, s2]
  by_cases hmk : m = k
  ·rw [if_pos hmk, if_pos ⟨hmk, by decide⟩, if_pos ⟨hmk, by decide⟩, if_pos ⟨hmk, by decide⟩]
   exact ⟨rfl, rfl, rfl⟩
  ·simp only [hmk, false_and, if_false]
   by_cases hm' : m = 2048
   ·subst hm'
    simp only [true_and, if_true]
    refine ⟨?_, ?_, ?_⟩
    ·rw [if_neg (by omega), if_neg (by omega)]
     by_cases hA : Q 2048 = []
     ·rw [if_pos (by rw [b1, hA]; rfl), d0, hA]; rfl
     ·rw [if_neg (fun g => hA (Jz.1 (by rw [<- b1]; exact g))), b0, HU _ hA]
    ·rw [if_neg (by omega), d1, Cb _ hne]
    ·rw [b2, d2]; simp
   ·simp only [hm', false_and, if_false]
    exact h.hd m hm
 ·rw [hU] at hy
  by_cases hm : m = k
  ·rw [if_pos hm] at hy; simp at hy
  ·rw [if_neg hm] at hy
   have q2 : gC (joinT T (gC S k 0) (gC S 2048 1)) y 2 = if y = f then lastP (Q 2048) else gC T y 2 := by rw [t2]; simp
   have q3 : gC (joinT T (gC S k 0) (gC S 2048 1)) y 3 = if lastP (Q 2048) = (y : Int) + 1 then (f : Int) + 1 else gC T y 3 := by rw [t2]; simp
   rw [q2, q3]
   by_cases hm' : m = 2048
   ·rw [if_pos hm'] at hy
    have inK : ∀ C, Q k = C ++ y :: B' -> A' = Q 2048 ++ C -> (if y = f then lastP (Q 2048) else gC T y 2) = lastP A' /\ (if lastP (Q 2048) = (y : Int) + 1 then (f : Int) + 1 else gC T y 3) = headP B' := fun C e1 e2 => by
     have hyk : y ∈ Q k := by rw [e1]; simp
     obtain ⟨o1, o2⟩ := h.ch k C y B' e1
     rw [if_neg (c := lastP (Q 2048) = (y : Int) + 1) (fun g => dis y hyk (CL g))]
     refine ⟨?_, o2⟩
     cases C with
     | nil =>
       have : f = y := by rw [hF] at e1; simpa using (List.cons.inj e1).1
       rw [if_pos this.symm, e2, List.append_nil]
     | cons c C' =>
       have hfc : f = c := by rw [hF] at e1; exact (List.cons.inj e1).1
       have hne' : ¬ y = f := fun e => by
        have := h.nd k
        rw [e1, <- hfc, <- e] at this
        simp at this
       rw [if_neg hne', o1, e2, Cb _ (by simp)]
    rcases List.append_eq_append_iff.1 hy with ⟨C, e1, e2⟩ | ⟨C, e1, e2⟩
    ·exact inK C e2 e1
    ·cases C with
     | nil => exact inK [] (by simpa using e2.symm) (by simpa using e1.symm)
     | cons c C' =>
       simp only [List.cons_append, List.cons.injEq] at e2
       obtain ⟨rfl, e2⟩ := e2
       have hyB : y ∈ Q 2048 := by rw [e1]; simp
       obtain ⟨o1, o2⟩ := h.ch 2048 A' y C' e1
       have hyf : ¬ y = f := fun e => dis f hfk (e ▸ hyB)
       rw [if_neg hyf]
       refine ⟨o1, ?_⟩
       cases C' with
       | nil => rw [if_pos (by rw [e1, BP]), e2, List.nil_append, hF]; rfl
       | cons c' C'' =>
         have hl : lastP (Q 2048) ≠ (y : Int) + 1 := fun g => by
          rw [e1, Cb _ (by simp), FG _ (by simp)] at g
          have hm' := CL g
          have := h.nd 2048
          rw [e1] at this
          exact (List.nodup_cons.1 (List.nodup_append.1 this).2.1).1 hm'
         rw [if_neg hl, o2, e2]; rfl
   ·rw [if_neg hm'] at hy
    have hyQ : y ∈ Q m := by rw [hy]; simp
    rw [if_neg (c := y = f) (fun e => hm (h.dj m k y hyQ (e ▸ hfk))), if_neg (c := lastP (Q 2048) = (y : Int) + 1) (fun g => hm' (h.dj m 2048 y hyQ (CL g)))]
    exact h.ch m A' y B' hy
def G0 : Glob := fun _ _ => none
def i64 : Sh := .sc kJ
def bS : Sh := .sc .b
def k5 : List K := [.i .i64, .i .i64, .i .i64, .i .i64, .i .i64]
def k3 : List K := [.i .i64, .i .i64, .i .i64]
def ltm : Sh := .lst 106 (Row.ofKs k5) true
def wsh : Sh := .seg 102 k3 [i64, i64, i64, i64, ltm]
def wob : Ob := { j := 0, ty := 102, tl := some k3, cs := [.sc .x, i64, i64, i64, i64, ltm] }
def pin : Sh := .pin 0 5 3
def z0 : Nat -> List Int -> Int := fun _ _ => 0
def T0 : List Int -> Prop := fun _ => True
def blk (k t : Int) : Int := t / 256 ^ k.toNat
def fn71 (_ : Nat) (xs : List Int) : Int := blk (env xs 0) (env xs 1)
def e71 : Ent := ⟨71, 91, [i64, i64], [], [], i64, fn71, fun xs => 0 <= env xs 0 /\ env xs 0 <= 4⟩
def T5 (xs : List Int) : RL := dc (env xs 5)
def S3 (xs : List Int) : RL := dc (env xs 0)
def nowW (xs : List Int) : Int := env xs 1
def locI (now : Int) (T : RL) (i : Nat) : Int := if gC T i 4 <= now then 2048 else gC T i 0 * 512 + gC T i 1
def ofOK (now : Int) (T : RL) (i : Nat) : Prop := now < gC T i 4 -> 0 <= gC T i 0 /\ gC T i 0 < 4 /\ 0 <= gC T i 1 /\ gC T i 1 < 512
structure WL (S T le : Int) (Q : Nat -> List Nat) : Prop where
 rS : rowsOK k3 (dc S)
 rT : rowsOK k5 (dc T)
 ct : 0 < (dc T).length /\ (dc T).length <= 4096
 lk : Lk (dc T) (dc S) Q (dc T).length
 le : 0 <= le /\ le <= 4096
def lenT (xs : List Int) : Int := ((dc (env xs 5)).length : Int)
def e46 : Ent := ⟨46, 56, [wsh], [], [0, 1], .lt .b 0, z0, fun xs => 0 < lenT xs /\ lenT xs <= 4096⟩
def e47 : Ent := ⟨47, 57, [wsh, i64], [], [0, 1], bS, fun _ xs => b2i (decide (0 <= env xs 6) && decide (env xs 6 < lenT xs)), fun xs => 0 < lenT xs /\ lenT xs <= 4096⟩
def idW (xs : List Int) : Nat := (env xs 6).toNat
def pre69 (xs : List Int) : Prop := rowsOK k5 (T5 xs) /\ (T5 xs).length <= 4096 /\ 0 <= env xs 6 /\ env xs 6 < lenT xs /\ ofOK (nowW xs) (T5 xs) (idW xs)
def e69 : Ent := ⟨69, 89, [wsh, i64], [], [0, 1], pin, fun _ xs => locI (nowW xs) (T5 xs) (idW xs), pre69⟩
def lvF (now d : Int) : Int := if blk 1 d <= blk 1 now + 1 then 0 else if blk 2 d <= blk 2 now + 1 then 1 else if blk 3 d <= blk 3 now + 1 then 2 else 3
def fn70 (j : Nat) (xs : List Int) : Int := match j with
 | 0 => lvF (nowW xs) (env xs 6)
 | _ => blk (lvF (nowW xs) (env xs 6)) (env xs 6) % 512
def pre70 (xs : List Int) : Prop := 0 <= nowW xs /\ nowW xs <= 1099511627776 /\ 0 <= env xs 6 /\ env xs 6 <= 1101659111424
def e70 : Ent := ⟨70, 90, [wsh, i64], [], [0, 1], .agg [i64, i64], fn70, pre70⟩
def fn48 (j : Nat) (xs : List Int) : Int := match j with
 | 0 => cd (dropS (S3 xs) (locI (nowW xs) (T5 xs) (idW xs)).toNat (gC (T5 xs) (idW xs) 2) (gC (T5 xs) (idW xs) 3))
 | 1 => env xs 1
 | 2 => env xs 2
 | 3 => env xs 3 - 1
 | 4 => env xs 4
 | _ => cd (dropT (T5 xs) (idW xs))
def pre48 (xs : List Int) : Prop := ∃ Q, WL (env xs 0) (env xs 5) (env xs 3) Q /\ 0 <= env xs 6 /\ env xs 6 < lenT xs /\ ofOK (nowW xs) (T5 xs) (idW xs) /\ idW xs ∈ Q (locI (nowW xs) (T5 xs) (idW xs)).toNat
def e48 : Ent := ⟨48, 58, [wsh, i64], [wob], [], .tup [], fn48, pre48⟩
def kW (now d : Int) : Int := if d <= now then 2048 else lvF now d * 512 + blk (lvF now d) d % 512
def fn49 (j : Nat) (xs : List Int) : Int := match j with
 | 0 => cd (putS (S3 xs) (kW (nowW xs) (env xs 7)).toNat (idW xs))
 | 1 => env xs 1
 | 2 => env xs 2
 | 3 => env xs 3 + 1
 | 4 => env xs 4
 | _ => cd (putT (T5 xs) (idW xs) (lvF (nowW xs) (env xs 7)) (blk (lvF (nowW xs) (env xs 7)) (env xs 7) % 512) (env xs 7) (gC (S3 xs) (kW (nowW xs) (env xs 7)).toNat 1))
def pre49 (xs : List Int) : Prop := ∃ Q, WL (env xs 0) (env xs 5) (env xs 3) Q /\ 0 <= env xs 6 /\ env xs 6 < lenT xs /\ (∀ m, idW xs ∉ Q m) /\ (0 <= nowW xs /\ nowW xs <= 1099511627776) /\ 0 <= env xs 7 /\ env xs 7 <= 1101659111424
def e49 : Ent := ⟨49, 59, [wsh, i64, i64], [wob], [], .tup [], fn49, pre49⟩
def fn50 (j : Nat) (xs : List Int) : Int := match j with
 | 0 => if gC (S3 xs) (idW xs) 2 = 0 then env xs 0 else cd (joinS (S3 xs) (idW xs))
 | 1 => env xs 1
 | 2 => env xs 2
 | 3 => env xs 3
 | 4 => env xs 4
 | _ => if gC (S3 xs) (idW xs) 2 = 0 then env xs 5 else cd (joinT (T5 xs) (gC (S3 xs) (idW xs) 0) (gC (S3 xs) 2048 1))
def pre50 (xs : List Int) : Prop := ∃ Q, WL (env xs 0) (env xs 5) (env xs 3) Q /\ 0 <= env xs 6 /\ env xs 6 < 2048
def e50 : Ent := ⟨50, 60, [wsh, pin], [wob], [], .tup [], fn50, pre50⟩
def wK (k now : Int) : Nat := (k * 512 + (blk k now + 1) % 512).toNat
def wtF (S : RL) (now : Int) : Int := if 0 < gC S (wK 1 now) 2 then gC S (wK 1 now) 0 else if 0 < gC S (wK 2 now) 2 then gC S (wK 2 now) 0 else if 0 < gC S (wK 3 now) 2 then gC S (wK 3 now) 0 else 0
def e51 : Ent := ⟨51, 61, [wsh], [], [0, 1], i64, fun _ xs => wtF (S3 xs) (nowW xs), fun xs => rowsOK k3 (S3 xs) /\ (S3 xs).length = 2049 /\ 0 <= nowW xs /\ nowW xs <= 1099511627776⟩
def cA : Ctx := ⟨[], []⟩
def cB : Ctx := ⟨[e71], []⟩
def cC : Ctx := ⟨[e69, e70], []⟩
def Sv : E := (.cmp .geq (.bin .mul .i64 (lI 8) (vI 0)) (lI 0))
def VV : List E := [(.sh .shr .i64 (vI 1) (.bin .mul .i64 (lI 8) (vI 0)))]
theorem ev_71 : evE Try.prog G0 (Af cA.fs) (ltOf cA.ls) 40 10 e71 = some (Sv, VV) := by kernel_rfl
def Sw : E := (.not (.cmp .eql (aI 0 0 [(vX 5)]) (lI 0)))
def es_46 : List E := []
theorem ev_46 : evE Try.prog G0 (Af cA.fs) (ltOf cA.ls) 40 10 e46 = some (Sw, es_46) := by kernel_rfl
def Sx : E := (.lit .b 1)
def VW : List E := [(.and (.cmp .geq (vI 6) (lI 0)) (.cmp .lss (vI 6) (aI 0 0 [(vX 5)])))]
theorem ev_47 : evE Try.prog G0 (Af cA.fs) (ltOf cA.ls) 40 10 e47 = some (Sx, VW) := by kernel_rfl
def Iq : E := (.and (.cmp .geq (vI 6) (lI 0)) (.cmp .lss (vI 6) (aI 0 0 [(vX 5)])))
def M7 : E := (.cmp .leq (aI 0 1 [(vX 5), (vI 6), (.lit .x 4)]) (vI 1))
def M8 : E := (.cmp .geq (aI 0 1 [(vX 5), (vI 6), (.lit .x 0)]) (lI 0))
def Sy : E := (.and Iq (.and Iq (.or M7 (.and Iq (.and Iq (.and (.and M8 (.cmp .lss (aI 0 1 [(vX 5), (vI 6), (.lit .x 0)]) (lI 4))) (.and (.and M8 (.cmp .lss (aI 0 1 [(vX 5), (vI 6), (.lit .x 0)]) (lI 1000000000))) (.and (.cmp .geq (aI 0 1 [(vX 5), (vI 6), (.lit .x 1)]) (lI 0)) (.cmp .lss (aI 0 1 [(vX 5), (vI 6), (.lit .x 1)]) (lI 512))))))))))
def VX : List E := [(.ite M7 (lI 2048) (.bin .add .i64 (.bin .mul .i64 (aI 0 1 [(vX 5), (vI 6), (.lit .x 0)]) (lI 512)) (aI 0 1 [(vX 5), (vI 6), (.lit .x 1)])))]
theorem ev_69 : evE Try.prog G0 (Af cA.fs) (ltOf cA.ls) 40 10 e69 = some (Sy, VX) := by kernel_rfl
def Kv : E := (.cmp .gtr (aI 71 0 [(lI 1), (vI 6)]) (.bin .add .i64 (aI 71 0 [(lI 1), (vI 1)]) (lI 1)))
def Ir : E := (.not Kv)
def Kw : E := (.cmp .gtr (aI 71 0 [(lI 2), (vI 6)]) (.bin .add .i64 (aI 71 0 [(lI 2), (vI 1)]) (lI 1)))
def It : E := (.not Kw)
def Kx : E := (.cmp .gtr (aI 71 0 [(lI 3), (vI 6)]) (.bin .add .i64 (aI 71 0 [(lI 3), (vI 1)]) (lI 1)))
def Ky : E := (.not Kx)
def Iu : E := (.ite Ir (lI 0) (.ite It (lI 1) (.ite Ky (lI 2) (lI 3))))
def Sz : E := (.and (.and (.and (.app .b 71 1000000 [(lI 1), (vI 6)]) (.app .b 71 1000000 [(lI 1), (vI 1)])) (.or Ir (.and (.and (.app .b 71 1000000 [(lI 2), (vI 6)]) (.app .b 71 1000000 [(lI 2), (vI 1)])) (.or It (.and (.app .b 71 1000000 [(lI 3), (vI 6)]) (.app .b 71 1000000 [(lI 3), (vI 1)])))))) (.or (.not (.or Ir (.and Kv (.or It (.and Kw (.or Ky Kx)))))) (.app .b 71 1000000 [Iu, (vI 6)])))
def SA : List E := [Iu, (.dv .rem .i64 (aI 71 0 [Iu, (vI 6)]) 512)]
theorem ev_70 : evE Try.prog G0 (Af cB.fs) (ltOf cB.ls) 40 10 e70 = some (Sz, SA) := by kernel_rfl
def Ea : E := (.and (.cmp .geq (vI 6) (lI 0)) (.cmp .lss (vI 6) (aI 0 0 [(vX 5)])))
def Kz : E := (.cmp .gtr (aI 0 1 [(vX 5), (vI 6), (.lit .x 2)]) (lI 0))
def M9 : E := (.bin .sub .i64 (aI 0 1 [(vX 5), (vI 6), (.lit .x 2)]) (lI 1))
def EK : E := (aI 69 0 [(vX 0), (vI 1), (vI 2), (vI 3), (vI 4), (vX 5), (vI 6)])
def KA : E := (.cmp .geq EK (lI 0))
def Na : E := (.and KA (.cmp .lss EK (lI 1000000000)))
def KB : E := (.ite Kz (aX 0 6 [(vX 5), M9, (.lit .x 3), (aI 0 1 [(vX 5), (vI 6), (.lit .x 3)])]) (vX 5))
def Qi : E := (aI 0 1 [KB, (vI 6), (.lit .x 3)])
def KC : E := (.cmp .gtr Qi (lI 0))
def Nb : E := (.bin .sub .i64 Qi (lI 1))
def Lf : E := (.ite Kz (vX 0) (aX 0 6 [(vX 0), EK, (.lit .x 0), (aI 0 1 [(vX 5), (vI 6), (.lit .x 3)])]))
def N2 : E := (aI 0 1 [KB, (vI 6), (.lit .x 2)])
def Lg : E := (.ite KC Lf (aX 0 6 [Lf, EK, (.lit .x 1), N2]))
def SB : E := (.and (.and (.app .b 69 1000000 [(vX 0), (vI 1), (vI 2), (vI 3), (vI 4), (vX 5), (vI 6)]) Ea) (.and (.and Ea (.and (.or (.not Kz) (.and Ea (.and Ea (.and (.cmp .geq M9 (lI 0)) (.cmp .lss M9 (aI 0 0 [(vX 5)])))))) (.or Kz (.and Ea (.and Na (.and KA (.cmp .lss EK (aI 0 0 [(vX 0)])))))))) (.and (.and Ea (.and (.or (.not KC) (.and Ea (.and Ea (.and (.cmp .geq Nb (lI 0)) (.cmp .lss Nb (aI 0 0 [(vX 5)])))))) (.or KC (.and Ea (.and Na (.and KA (.cmp .lss EK (aI 0 0 [Lf])))))))) (.and (.and Na (.and KA (.cmp .lss EK (aI 0 0 [Lg])))) Ea))))
def VY : List E := [(aX 0 6 [Lg, EK, (.lit .x 2), (.bin .sub .i64 (aI 0 1 [Lg, EK, (.lit .x 2)]) (lI 1))]), (vI 1), (vI 2), (.bin .sub .i64 (vI 3) (lI 1)), (vI 4), (aX 0 6 [(.ite KC (aX 0 6 [KB, Nb, (.lit .x 2), N2]) KB), (vI 6), (.lit .x 0), (lI 0), (lI 0), (lI 0), (lI 0), (lI 0)])]
theorem ev_48 : evE Try.prog G0 (Af cC.fs) (ltOf cC.ls) 40 10 e48 = some (SB, VY) := by kernel_rfl
def Nc : E := (.and (.cmp .geq (vI 6) (lI 0)) (.cmp .lss (vI 6) (aI 0 0 [(vX 5)])))
def Nd : E := (aX 0 6 [(aX 0 6 [(vX 5), (vI 6), (.lit .x 0), (aI 70 0 [(vX 0), (vI 1), (vI 2), (vI 3), (vI 4), (vX 5), (vI 7)]), (aI 70 1 [(vX 0), (vI 1), (vI 2), (vI 3), (vI 4), (vX 5), (vI 7)])]), (vI 6), (.lit .x 4), (vI 7)])
def Eb : E := (aI 69 0 [(vX 0), (vI 1), (vI 2), (vI 3), (vI 4), Nd, (vI 6)])
def KD : E := (.cmp .geq Eb (lI 0))
def Nf : E := (.and KD (.cmp .lss Eb (lI 1000000000)))
def KE : E := (.and Nf (.and KD (.cmp .lss Eb (aI 0 0 [(vX 0)]))))
def Ng : E := (aI 0 1 [(vX 0), Eb, (.lit .x 1)])
def KF : E := (.cmp .gtr Ng (lI 0))
def Nh : E := (.bin .sub .i64 Ng (lI 1))
def Qj : E := (.ite KF (vX 0) (aX 0 6 [(vX 0), Eb, (.lit .x 0), (.bin .add .i64 (vI 6) (lI 1))]))
def Lh : E := (aX 0 6 [Qj, Eb, (.lit .x 1), (.bin .add .i64 (vI 6) (lI 1))])
def N3 : E := (aX 0 6 [(aX 0 6 [Nd, (vI 6), (.lit .x 2), Ng]), (vI 6), (.lit .x 3), (lI 0)])
def SC : E := (.and Nc (.and (.and (.app .b 70 1000000 [(vX 0), (vI 1), (vI 2), (vI 3), (vI 4), (vX 5), (vI 7)]) Nc) (.and (.app .b 69 1000000 [(vX 0), (vI 1), (vI 2), (vI 3), (vI 4), Nd, (vI 6)]) (.and (.and KE Nc) (.and (.and KE (.and (.or (.not KF) (.and KE (.and (.cmp .geq Nh (lI 0)) (.cmp .lss Nh (aI 0 0 [(vX 5)]))))) (.or KF KE))) (.and (.and Nf (.and KD (.cmp .lss Eb (aI 0 0 [Qj])))) (.and Nf (.and KD (.cmp .lss Eb (aI 0 0 [Lh]))))))))))
def VZ : List E := [(aX 0 6 [Lh, Eb, (.lit .x 2), (.bin .add .i64 (aI 0 1 [Lh, Eb, (.lit .x 2)]) (lI 1))]), (vI 1), (vI 2), (.bin .add .i64 (vI 3) (lI 1)), (vI 4), (.ite KF (aX 0 6 [N3, Nh, (.lit .x 3), (.bin .add .i64 (vI 6) (lI 1))]) N3)]
theorem ev_49 : evE Try.prog G0 (Af cC.fs) (ltOf cC.ls) 40 10 e49 = some (SC, VZ) := by kernel_rfl
def Iv : E := (.and (.cmp .geq (vI 6) (lI 0)) (.cmp .lss (vI 6) (lI 1000000000)))
def KG : E := (.and Iv (.and (.cmp .geq (vI 6) (lI 0)) (.cmp .lss (vI 6) (aI 0 0 [(vX 0)]))))
def KH : E := (.cmp .eql (aI 0 1 [(vX 0), (vI 6), (.lit .x 2)]) (lI 0))
def Iw : E := (.cmp .gtr (aI 0 1 [(vX 0), (lI 2048), (.lit .x 1)]) (lI 0))
def KI : E := (.bin .sub .i64 (aI 0 1 [(vX 0), (lI 2048), (.lit .x 1)]) (lI 1))
def Hw : E := (.ite Iw (vX 0) (aX 0 6 [(vX 0), (lI 2048), (.lit .x 0), (aI 0 1 [(vX 0), (vI 6), (.lit .x 0)])]))
def Ni : E := (aI 0 0 [Hw])
def Nj : E := (.and Iv (.and (.cmp .geq (vI 6) (lI 0)) (.cmp .lss (vI 6) Ni)))
def Nk : E := (.cmp .lss (lI 2048) Ni)
def KJ : E := (.bin .sub .i64 (aI 0 1 [Hw, (vI 6), (.lit .x 0)]) (lI 1))
def G9 : E := (aX 0 6 [Hw, (lI 2048), (.lit .x 1), (aI 0 1 [Hw, (vI 6), (.lit .x 1)])])
def Ll : E := (aI 0 0 [G9])
def Lm : E := (.cmp .lss (lI 2048) Ll)
def Ln : E := (aX 0 6 [G9, (lI 2048), (.lit .x 2), (.bin .add .i64 (aI 0 1 [G9, (lI 2048), (.lit .x 2)]) (aI 0 1 [G9, (vI 6), (.lit .x 2)]))])
def Pg : E := (.and KG (.or KH (.and (.and (.cmp .lss (lI 2048) (aI 0 0 [(vX 0)])) (.and (.or (.not Iw) (.and (.cmp .lss (lI 2048) (aI 0 0 [(vX 0)])) (.and KG (.and (.cmp .geq KI (lI 0)) (.cmp .lss KI (aI 0 0 [(vX 5)])))))) (.or Iw (.and KG (.cmp .lss (lI 2048) (aI 0 0 [(vX 0)])))))) (.and (.and Nj (.and Nk (.and (.cmp .geq KJ (lI 0)) (.cmp .lss KJ (aI 0 0 [(vX 5)]))))) (.and (.and Nj Nk) (.and (.and Lm (.and (.and Iv (.and (.cmp .geq (vI 6) (lI 0)) (.cmp .lss (vI 6) Ll))) Lm)) (.and Iv (.and (.cmp .geq (vI 6) (lI 0)) (.cmp .lss (vI 6) (aI 0 0 [Ln]))))))))))
def SD : List E := [(.ite KH (vX 0) (aX 0 6 [Ln, (vI 6), (.lit .x 0), (lI 0), (lI 0), (lI 0)])), (vI 1), (vI 2), (vI 3), (vI 4), (.ite KH (vX 5) (aX 0 6 [(.ite Iw (aX 0 6 [(vX 5), KI, (.lit .x 3), (aI 0 1 [(vX 0), (vI 6), (.lit .x 0)])]) (vX 5)), KJ, (.lit .x 2), (aI 0 1 [Hw, (lI 2048), (.lit .x 1)])]))]
theorem ev_50 : evE Try.prog G0 (Af cC.fs) (ltOf cC.ls) 40 10 e50 = some (Pg, SD) := by kernel_rfl
def Ix : E := (.dv .rem .i64 (.bin .add .i64 (aI 71 0 [(lI 1), (vI 1)]) (lI 1)) 512)
def Nl : E := (.cmp .geq Ix (lI 0))
def Iy : E := (.bin .add .i64 Ix (lI 512))
def Iz : E := (.cmp .gtr (aI 0 1 [(vX 0), Iy, (.lit .x 2)]) (lI 0))
def IA : E := (.dv .rem .i64 (.bin .add .i64 (aI 71 0 [(lI 2), (vI 1)]) (lI 1)) 512)
def Nm : E := (.cmp .geq IA (lI 0))
def IB : E := (.bin .add .i64 IA (lI 1024))
def IC : E := (.cmp .gtr (aI 0 1 [(vX 0), IB, (.lit .x 2)]) (lI 0))
def ID : E := (.dv .rem .i64 (.bin .add .i64 (aI 71 0 [(lI 3), (vI 1)]) (lI 1)) 512)
def Nn : E := (.cmp .geq ID (lI 0))
def Ha : E := (.bin .add .i64 ID (lI 1536))
def SE : E := (.and (.and (.app .b 71 1000000 [(lI 1), (vI 1)]) (.and (.and Nl (.cmp .lss Ix (lI 512))) (.and (.and Nl (.cmp .lss Ix (lI 1000000000))) (.and (.cmp .geq Iy (lI 0)) (.cmp .lss Iy (aI 0 0 [(vX 0)])))))) (.or Iz (.and (.and (.app .b 71 1000000 [(lI 2), (vI 1)]) (.and (.and Nm (.cmp .lss IA (lI 512))) (.and (.and Nm (.cmp .lss IA (lI 1000000000))) (.and (.cmp .geq IB (lI 0)) (.cmp .lss IB (aI 0 0 [(vX 0)])))))) (.or IC (.and (.app .b 71 1000000 [(lI 3), (vI 1)]) (.and (.and Nn (.cmp .lss ID (lI 512))) (.and (.and Nn (.cmp .lss ID (lI 1000000000))) (.and (.cmp .geq Ha (lI 0)) (.cmp .lss Ha (aI 0 0 [(vX 0)]))))))))))
def V1 : List E := [(.ite (.or Iz (.and (.not Iz) (.or IC (.and (.not IC) (.cmp .gtr (aI 0 1 [(vX 0), Ha, (.lit .x 2)]) (lI 0)))))) (.ite Iz (aI 0 1 [(vX 0), Iy, (.lit .x 0)]) (.ite IC (aI 0 1 [(vX 0), IB, (.lit .x 0)]) (aI 0 1 [(vX 0), Ha, (.lit .x 0)]))) (lI 0))]
theorem ev_51 : evE Try.prog G0 (Af cB.fs) (ltOf cB.ls) 40 10 e51 = some (SE, V1) := by kernel_rfl
theorem mixed : Try.prog.follows Departure.mixedOrders = true := by kernel_rfl
theorem cAok : cA.OK Try.prog G0 := Ctx.OK.nil
theorem ok71 : EntryOK Try.prog G0 e71 := cAok.entryP mixed ev_71 _ rfl _ rfl fun xs hf hp => by
 obtain ⟨l, hl, hF⟩ := AN (l0 := cA.l)
 show Sv.tt cA.l.F _ = true /\ Aq e71.fn _ cA.l.F _ _ _ _
 rw [hl]
 obtain ⟨k, t, rfl⟩ : ∃ a b, xs = [a, b] := by
  have := Ao hf
  match xs, this with
  | [a, b], _ => exact ⟨a, b, rfl⟩
 obtain ⟨h0, h1, _⟩ := hf
 simp only [Ad] at h0 h1
 obtain ⟨p1, p2⟩ := hp
 simp only [ewA, ewL, preC, binI, dvI, shI, cmpB, env, bi, List.headD, List.tail, List.map, Nat.reduceAdd] at p1 p2
 have hm := i64r h1
 refine ⟨?_, ?_, trivial⟩
 ·simp (disch := omega) only [Sv, ewA, ewL, preC, binI, dvI, shI, cmpB, env, bi, List.headD, List.tail, List.map, Nat.reduceAdd, ewB, ewM, if_true, if_false, implies_true, forall_const, ne_eq, reduceCtorEq, Int.reduceEq, Int.reduceLT, Int.reduceLE, Int.reduceToNat, Int.reduceAdd, Int.reduceSub, Int.reduceMul, Int.reduceNeg, Int.reduceBEq, Nat.reduceLT, Nat.reduceEqDiff, h0, h1]
  omega
 ·simp (disch := omega) only [VV, e71, fn71, ewA, ewL, preC, binI, dvI, shI, cmpB, env, bi, List.headD, List.tail, List.map, Nat.reduceAdd, ewB, ewM, if_true, if_false, implies_true, forall_const, ne_eq, reduceCtorEq, Int.reduceEq, Int.reduceLT, Int.reduceLE, Int.reduceToNat, Int.reduceAdd, Int.reduceSub, Int.reduceMul, Int.reduceNeg, Int.reduceBEq, Nat.reduceLT, Nat.reduceEqDiff, h0, h1]
  have hpow : (256 : Int) ^ k.toNat = 2 ^ (8 * k).toNat := by
   rw [show (8 * k).toNat = 8 * k.toNat by omega, Int.pow_mul]; rfl
  have hpos : (0 : Int) < 2 ^ (8 * k).toNat := Int.pow_pos (by decide)
  rw [show min (8 * k).toNat IntKind.i64.bits = (8 * k).toNat by simp only [IntKind.bits]; omega, Int.fdiv_eq_ediv_of_nonneg _ (Int.le_of_lt hpos), blk, hpow]
  generalize (2 : Int) ^ (8 * k).toNat = q at hpos ⊢
  have g1 : t / q <= 9223372036854775807 := by
   by_cases ht : 0 <= t
   ·have := Int.ediv_le_self q ht; omega
   ·have : t / q < 0 := Int.ediv_neg_of_neg_of_pos (by omega) hpos; omega
  have g2 : -9223372036854775808 <= t / q := (Int.le_ediv_iff_mul_le hpos).2 (by
   have : (9223372036854775808 : Int) * 1 <= 9223372036854775808 * q := Int.mul_le_mul_of_nonneg_left (by omega) (by decide)
   rw [Int.neg_mul]; omega)
  exact i64w g2 g1
theorem Gj {xs : List Int} {k : K} (h : fits [.x, .i .i64, .i .i64, .i .i64, .i .i64, .x, k] xs) : ∃ S now bu le mo T i, xs = [S, now, bu, le, mo, T, i] := by
 have := Ao h
 match xs, this with
 | [a, b, c, d, e, f, g], _ => exact ⟨_, _, _, _, _, _, _, rfl⟩
theorem No {xs : List Int} (h : fits [.x, .i .i64, .i .i64, .i .i64, .i .i64, .x] xs) : ∃ S now bu le mo T, xs = [S, now, bu, le, mo, T] := by
 have := Ao h
 match xs, this with
 | [a, b, c, d, e, f], _ => exact ⟨_, _, _, _, _, _, rfl⟩
theorem DX {ks : List K} {T : RL} (h : rowsOK ks T) {i j : Nat} (hi : i < T.length) (hj : ks[j]? = some kJ) : IntKind.i64.wrap (gC T i j) = gC T i j := by
 have := CU (h _ (List.getElem_mem hi)) j _ hj
 unfold gC
 rw [show T.getD i [] = T[i] by simp [List.getD, hi]]
 exact this
theorem VG {ks : List K} {T : RL} {i j : Nat} {vs : List Int} (h : rowsOK ks T) (hi : i < T.length) (hv : fits ks (splR (T.getD i []) j vs)) : rowsOK ks (setC T i j vs) := fun r hr => by
 unfold setC at hr
 rcases List.mem_or_eq_of_mem_set hr with h1 | rfl
 ·exact h r h1
 ·exact hv
theorem Ap {ks : List K} {T : RL} {i j : Nat} {vs : List Int} (h : rowsOK ks T) (hi : i < T.length) (hv : fits ((ks.drop j).take vs.length) vs) (hl : j + vs.length <= ks.length) : rowsOK ks (setC T i j vs) :=
 VG h hi (JZ (by rw [show T.getD i [] = T[i] by simp [List.getD, hi]]; exact h _ (List.getElem_mem hi)) hv hl).1
theorem ok46 : EntryOK Try.prog G0 e46 := cAok.entryP mixed ev_46 _ rfl _ rfl fun xs hf hp => by
 obtain ⟨l, hl, hF⟩ := AN (l0 := cA.l)
 show Sw.tt cA.l.F _ = true /\ Aq e46.fn _ cA.l.F _ _ _ _
 rw [hl]
 obtain ⟨S, now, bu, le, mo, T, rfl⟩ := No hf
 obtain ⟨p1, p2⟩ := hp
 simp only [lenT, ewA, ewL, preC, binI, dvI, shI, cmpB, env, bi, List.headD, List.tail, List.map, Nat.reduceAdd] at p1 p2
 refine ⟨?_, trivial⟩
 simp (disch := omega) only [Sw, ewA, ewL, preC, binI, dvI, shI, cmpB, env, bi, List.headD, List.tail, List.map, Nat.reduceAdd, ewB, ewM, if_true, if_false, implies_true, forall_const, ne_eq, reduceCtorEq, Int.reduceEq, Int.reduceLT, Int.reduceLE, Int.reduceToNat, Int.reduceAdd, Int.reduceSub, Int.reduceMul, Int.reduceNeg, Int.reduceBEq, Nat.reduceLT, Nat.reduceEqDiff]
 omega
theorem ok47 : EntryOK Try.prog G0 e47 := cAok.entryP mixed ev_47 _ rfl _ rfl fun xs hf hp => by
 obtain ⟨l, hl, hF⟩ := AN (l0 := cA.l)
 show Sx.tt cA.l.F _ = true /\ Aq e47.fn _ cA.l.F _ _ _ _
 rw [hl]
 obtain ⟨S, now, bu, le, mo, T, i, rfl⟩ := Gj hf
 obtain ⟨h0, h1, h2, h3, h4, h5, h6, _⟩ := hf
 simp only [Ad, A0] at h6
 obtain ⟨p1, p2⟩ := hp
 simp only [lenT, ewA, ewL, preC, binI, dvI, shI, cmpB, env, bi, List.headD, List.tail, List.map, Nat.reduceAdd] at p1 p2
 refine ⟨?_, ?_, trivial⟩
 ·simp (disch := omega) only [Sx, ewA, ewL, preC, binI, dvI, shI, cmpB, env, bi, List.headD, List.tail, List.map, Nat.reduceAdd, ewB, ewM, if_true, if_false, implies_true, forall_const, ne_eq, reduceCtorEq, Int.reduceEq, Int.reduceLT, Int.reduceLE, Int.reduceToNat, Int.reduceAdd, Int.reduceSub, Int.reduceMul, Int.reduceNeg, Int.reduceBEq, Nat.reduceLT, Nat.reduceEqDiff]
 ·simp (disch := omega) only [VW, e47, lenT, ewA, ewL, preC, binI, dvI, shI, cmpB, env, bi, List.headD, List.tail, List.map, Nat.reduceAdd, ewB, ewM, if_true, if_false, implies_true, forall_const, ne_eq, reduceCtorEq, Int.reduceEq, Int.reduceLT, Int.reduceLE, Int.reduceToNat, Int.reduceAdd, Int.reduceSub, Int.reduceMul, Int.reduceNeg, Int.reduceBEq, Nat.reduceLT, Nat.reduceEqDiff, h6]
theorem ok69 : EntryOK Try.prog G0 e69 := cAok.entryP mixed ev_69 _ rfl _ rfl fun xs hf hp => by
 obtain ⟨l, hl, hF⟩ := AN (l0 := cA.l)
 show Sy.tt cA.l.F _ = true /\ Aq e69.fn _ cA.l.F _ _ _ _
 rw [hl]
 obtain ⟨S, now, bu, le, mo, T, i, rfl⟩ := Gj hf
 obtain ⟨h0, h1, h2, h3, h4, h5, h6, _⟩ := hf
 simp only [Ad, A0] at h1 h6
 obtain ⟨p1, p2, p3, p4, p5⟩ := hp
 simp only [lenT, T5, S3, nowW, idW, ewA, ewL, preC, binI, dvI, shI, cmpB, env, bi, List.headD, List.tail, List.map, Nat.reduceAdd] at p1 p2 p3 p4 p5
 have hl : i.toNat < (dc T).length := by omega
 have c0 := DX p1 (j := 0) hl rfl
 have c1 := DX p1 (j := 1) hl rfl
 have c4 := DX p1 (j := 4) hl rfl
 simp only [gC] at c0 c1 c4 p5
 simp only [ofOK, gC] at p5
 refine ⟨?_, ?_, trivial⟩
 ·simp (disch := omega) only [Sy, Iq, M7, M8, ewA, ewL, preC, binI, dvI, shI, cmpB, env, bi, List.headD, List.tail, List.map, Nat.reduceAdd, ewB, ewM, if_true, if_false, implies_true, forall_const, ne_eq, reduceCtorEq, Int.reduceEq, Int.reduceLT, Int.reduceLE, Int.reduceToNat, Int.reduceAdd, Int.reduceSub, Int.reduceMul, Int.reduceNeg, Int.reduceBEq, Nat.reduceLT, Nat.reduceEqDiff, h1, h6, c0, c1, c4]
  exact ⟨⟨p3, p4⟩, ⟨p3, p4⟩, fun h => ⟨⟨p3, p4⟩, ⟨p3, p4⟩, ⟨(p5 h).1, (p5 h).2.1⟩, ⟨(p5 h).1, by have := (p5 h).2.1; omega⟩, (p5 h).2.2.1, (p5 h).2.2.2⟩⟩
 ·simp (disch := omega) only [VX, Iq, M7, M8, e69, locI, T5, nowW, idW, gC, ewA, ewL, preC, binI, dvI, shI, cmpB, env, bi, List.headD, List.tail, List.map, Nat.reduceAdd, ewB, ewM, if_true, if_false, implies_true, forall_const, ne_eq, reduceCtorEq, Int.reduceEq, Int.reduceLT, Int.reduceLE, Int.reduceToNat, Int.reduceAdd, Int.reduceSub, Int.reduceMul, Int.reduceNeg, Int.reduceBEq, Nat.reduceLT, Nat.reduceEqDiff, h1, h6, c0, c1, c4]
theorem Cc {t : Int} (k : Int) (h : 0 <= t) : 0 <= blk k t /\ blk k t <= t := by
 have hp : (0 : Int) < 256 ^ k.toNat := Int.pow_pos (by decide)
 exact ⟨Int.ediv_nonneg h (Int.le_of_lt hp), Int.ediv_le_self _ h⟩
theorem cBok : cB.OK Try.prog G0 := Ctx.OK.nil.addF ok71 rfl
set_option maxHeartbeats 4000000 in
theorem ok70 : EntryOK Try.prog G0 e70 := cBok.entryP mixed ev_70 _ rfl _ rfl fun xs hf hp => by
 obtain ⟨l, hl, hF⟩ := AN (l0 := cB.l)
 show Sz.tt cB.l.F _ = true /\ Aq e70.fn _ cB.l.F _ _ _ _
 rw [hl]
 have F71 := FC (k := 71) rfl (hF e71 (by rfl) (by decide))
 have hSS := F71
 obtain ⟨S, now, bu, le, mo, T, d, rfl⟩ := Gj hf
 obtain ⟨h0, h1, h2, h3, h4, h5, h6, _⟩ := hf
 simp only [Ad, A0] at h1 h6
 obtain ⟨p1, p2, p3, p4⟩ := hp
 simp only [nowW, ewA, ewL, preC, binI, dvI, shI, cmpB, env, bi, List.headD, List.tail, List.map, Nat.reduceAdd] at p1 p2 p3 p4
 have f : ∀ k t, e71.fn 0 [k, t] = blk k t := fun _ _ => rfl
 have n1 := Cc 1 p1
 have n2 := Cc 2 p1
 have n3 := Cc 3 p1
 have d1 := Cc 1 p3
 have d2 := Cc 2 p3
 have d3 := Cc 3 p3
 have y : ∀ t, e71.pre [1, t] /\ e71.pre [2, t] /\ e71.pre [3, t] /\ e71.pre [0, t] := fun t => ⟨⟨by show (0 : Int) <= 1; decide, by show (1 : Int) <= 4; decide⟩, ⟨by show (0 : Int) <= 2; decide, by show (2 : Int) <= 4; decide⟩, ⟨by show (0 : Int) <= 3; decide, by show (3 : Int) <= 4; decide⟩, ⟨by show (0 : Int) <= 0; decide, by show (0 : Int) <= 4; decide⟩⟩
 refine ⟨?_, ?_, ?_, trivial⟩
 ·simp (disch := omega) only [Sz, Kv, Ir, Kw, It, Kx, Ky, Iu, ewA, ewL, preC, binI, dvI, shI, cmpB, env, bi, List.headD, List.tail, List.map, Nat.reduceAdd, ewB, ewM, if_true, if_false, implies_true, forall_const, ne_eq, reduceCtorEq, Int.reduceEq, Int.reduceLT, Int.reduceLE, Int.reduceToNat, Int.reduceAdd, Int.reduceSub, Int.reduceMul, Int.reduceNeg, Int.reduceBEq, Nat.reduceLT, Nat.reduceEqDiff, hSS, h1, h6, f]
  refine ⟨⟨⟨(y d).1, (y now).1⟩, fun _ => ⟨⟨(y d).2.1, (y now).2.1⟩, fun _ => ⟨(y d).2.2.1, (y now).2.2.1⟩⟩⟩, fun _ => ?_⟩
  split
  ·exact (y d).2.2.2
  ·split
   ·exact (y d).1
   ·split
    ·exact (y d).2.1
    ·exact (y d).2.2.1
 ·simp (disch := omega) only [SA, Kv, Ir, Kw, It, Kx, Ky, Iu, e70, fn70, lvF, nowW, ewA, ewL, preC, binI, dvI, shI, cmpB, env, bi, List.headD, List.tail, List.map, Nat.reduceAdd, ewB, ewM, if_true, if_false, implies_true, forall_const, ne_eq, reduceCtorEq, Int.reduceEq, Int.reduceLT, Int.reduceLE, Int.reduceToNat, Int.reduceAdd, Int.reduceSub, Int.reduceMul, Int.reduceNeg, Int.reduceBEq, Nat.reduceLT, Nat.reduceEqDiff, hSS, h1, h6, f]
 ·simp (disch := omega) only [SA, Kv, Ir, Kw, It, Kx, Ky, Iu, e70, fn70, lvF, nowW, ewA, ewL, preC, binI, dvI, shI, cmpB, env, bi, List.headD, List.tail, List.map, Nat.reduceAdd, ewB, ewM, if_true, if_false, implies_true, forall_const, ne_eq, reduceCtorEq, Int.reduceEq, Int.reduceLT, Int.reduceLE, Int.reduceToNat, Int.reduceAdd, Int.reduceSub, Int.reduceMul, Int.reduceNeg, Int.reduceBEq, Nat.reduceLT, Nat.reduceEqDiff, hSS, h1, h6, f]
  have hb : ∀ k, 0 <= blk k d /\ blk k d <= d := fun k => Cc k p3
  obtain ⟨Z, hZ⟩ : ∃ Z, Z = blk (if blk 1 d <= blk 1 now + 1 then 0 else if blk 2 d <= blk 2 now + 1 then 1 else if blk 3 d <= blk 3 now + 1 then 2 else 3) d := ⟨_, rfl⟩
  have hZr : 0 <= Z /\ Z <= d := hZ ▸ hb _
  rw [<- hZ, show IntKind.i64.wrap Z = Z from i64w (by omega) (by omega), Int.tmod_eq_emod_of_nonneg hZr.1]
theorem cCok : cC.OK Try.prog G0 := (Ctx.OK.nil.addF ok70 rfl).addF ok69 rfl
theorem FW {l : List Nat} {c : Nat} (h : ∀ a ∈ l, a < c) : headP l <= c := by
 cases l with
 | nil => simp [headP]
 | cons a r => have := h a (by simp); simp only [headP]; omega
theorem DA {l : List Nat} {c : Nat} (h : ∀ a ∈ l, a < c) : lastP l <= c := FW (fun a ha => h a (by simpa using ha))
theorem AX (l : RL) (n j : Nat) : (l.getD n []).getD j 0 = gC l n j := rfl
theorem JA (l : RL) (i j : Nat) (vs : List Int) : l.set i (splR (l.getD i []) j vs) = setC l i j vs := rfl
theorem VH {now : Int} {T : RL} {i : Nat} (h : ofOK now T i) : 0 <= locI now T i /\ locI now T i < 2049 := by
 unfold locI
 by_cases hc : gC T i 4 <= now
 ·rw [if_pos hc]; omega
 ·rw [if_neg hc]; have := h (by omega); omega
theorem Ec : ∀ {c : Nat} {l : List Nat}, l.Nodup -> (∀ a ∈ l, a < c) -> l.length <= c
 | 0, l, _, hl => by
   cases l with
   | nil => simp
   | cons a r => have := hl a (by simp); omega
 | c + 1, l, h, hl => by
   have h1 := Ec (c := c) (l := l.erase c) (h.erase c) fun a ha => by
    have := (List.Nodup.mem_erase_iff h).1 ha
    have := hl a this.2
    omega
   rw [List.length_erase] at h1
   split at h1 <;> omega
set_option maxHeartbeats 8000000 in
theorem ok48 : EntryOK Try.prog G0 e48 := cCok.entryP mixed ev_48 _ rfl _ rfl fun xs hf hp => by
 obtain ⟨l, hl, hF⟩ := AN (l0 := cC.l)
 show SB.tt cC.l.F _ = true /\ Aq e48.fn _ cC.l.F _ _ _ _
 rw [hl]
 have F69 := FC (k := 69) rfl (hF e69 (by rfl) (by decide))
 have hSS := F69
 obtain ⟨S, now, bu, le, mo, T, i, rfl⟩ := Gj hf
 obtain ⟨h0, h1, h2, h3, h4, h5, h6, _⟩ := hf
 simp only [Ad, A0] at h1 h2 h3 h4 h6
 obtain ⟨Q, p1, p2, p3, p4, p5⟩ := hp
 simp only [lenT, T5, S3, nowW, idW, ewA, ewL, preC, binI, dvI, shI, cmpB, env, bi, List.headD, List.tail, List.map, Nat.reduceAdd] at p1 p2 p3 p4 p5
 have hle := p1.le
 have hct := p1.ct
 obtain ⟨A, B, hq⟩ := List.append_of_mem p5
 obtain ⟨c1, c2⟩ := p1.lk.ch _ _ _ _ hq
 obtain ⟨n, hn⟩ : ∃ n, n = i.toNat := ⟨_, rfl⟩
 have hl : n < (dc T).length := by omega
 have w2 := DX p1.rT (j := 2) hl rfl
 have w3 := DX p1.rT (j := 3) hl rfl
 have hL : e69.fn 0 [S, now, bu, le, mo, T, i] = locI now (dc T) n := by rw [hn]; rfl
 have hy : e69.pre [S, now, bu, le, mo, T, i] := ⟨p1.rT, p1.ct.2, p2, p3, p4⟩
 rw [<- hn] at c1 c2 hq p5 p4
 have hLr := VH p4
 have hnd := p1.lk.nd (locI now (dc T) n).toNat
 rw [hq] at hnd
 have hin : ∀ a, a ∈ A \/ a ∈ B -> a < (dc T).length := fun a ha => p1.lk.qc (locI now (dc T) n).toNat a (by rw [hq]; rcases ha with h | h <;> simp [h])
 have hPr : 0 <= gC (dc T) n 2 /\ gC (dc T) n 2 <= ((dc T).length : Int) := by rw [c1]; exact ⟨AW _, DA fun a ha => hin a (Or.inl ha)⟩
 have hXr : 0 <= gC (dc T) n 3 /\ gC (dc T) n 3 <= ((dc T).length : Int) := by rw [c2]; exact ⟨C1 _, FW fun a ha => hin a (Or.inr ha)⟩
 have hne : ((gC (dc T) n 2 - 1).toNat : Int) ≠ n \/ gC (dc T) n 2 = 0 := by
  by_cases h0 : gC (dc T) n 2 = 0
  ·exact Or.inr h0
  ·refine Or.inl fun e => ?_
   have : lastP A = (n : Int) + 1 := by rw [<- c1]; omega
   have hA := CL this
   obtain ⟨_, _, n3⟩ := List.nodup_append.1 hnd
   exact n3 n hA n (by simp) rfl
 have g2 : 0 < gC (dc T) n 2 -> gC (setC (dc T) (gC (dc T) n 2 - 1).toNat 3 [gC (dc T) n 3]) n 2 = gC (dc T) n 2 := fun h => by
  rw [p1.lk.tw.c1 (by omega) (by decide), if_neg (by omega)]
 have g3 : 0 < gC (dc T) n 2 -> gC (setC (dc T) (gC (dc T) n 2 - 1).toNat 3 [gC (dc T) n 3]) n 3 = gC (dc T) n 3 := fun h => by
  rw [p1.lk.tw.c1 (by omega) (by decide), if_neg (by omega)]
 have hS := p1.lk.sw.1
 have hK : (locI now (dc T) n).toNat < 2049 := by omega
 have hcr : 1 <= gC (dc S) (locI now (dc T) n).toNat 2 /\ gC (dc S) (locI now (dc T) n).toNat 2 <= 4096 := by
  rw [(p1.lk.hd _ hK).2.2, hq]
  have h1 := Ec (p1.lk.nd (locI now (dc T) n).toNat) fun a ha => p1.lk.qc _ a ha
  rw [hq] at h1
  simp only [List.length_append, List.length_cons] at h1 ⊢
  omega
 have u0 : ∀ v, gC (setC (dc S) (locI now (dc T) n).toNat 0 [v]) (locI now (dc T) n).toNat 2 = gC (dc S) (locI now (dc T) n).toNat 2 := fun v => by rw [p1.lk.sw.c1 hK (by decide), if_neg (by omega)]
 have u1 : ∀ v, gC (setC (dc S) (locI now (dc T) n).toNat 1 [v]) (locI now (dc T) n).toNat 2 = gC (dc S) (locI now (dc T) n).toNat 2 := fun v => by rw [p1.lk.sw.c1 hK (by decide), if_neg (by omega)]
 have u2 : ∀ v w, gC (setC (setC (dc S) (locI now (dc T) n).toNat 0 [v]) (locI now (dc T) n).toNat 1 [w]) (locI now (dc T) n).toNat 2 = gC (dc S) (locI now (dc T) n).toNat 2 := fun v w => by rw [(p1.lk.sw.set hK (by simp)).c1 hK (by decide), if_neg (by omega), u0]
 by_cases hP : 0 < gC (dc T) n 2 <;> by_cases hX : 0 < gC (dc T) n 3 <;> refine ⟨?_, ?_, ?_, ?_, ?_, ?_, ?_, trivial⟩
 all_goals simp (disch := omega) only [SB, Ea, Kz, M9, EK, KA, Na, KB, Qi, KC, Nb, Lf, N2, Lg, VY, e48, fn48, S3, T5, nowW, idW, ewA, ewL, preC, binI, dvI, shI, cmpB, env, bi, List.headD, List.tail, List.map, Nat.reduceAdd, ewB, ewM, if_true, if_false, implies_true, forall_const, ne_eq, reduceCtorEq, Int.reduceEq, Int.reduceLT, Int.reduceLE, Int.reduceToNat, Int.reduceAdd, Int.reduceSub, Int.reduceMul, Int.reduceNeg, Int.reduceBEq, Nat.reduceLT, Nat.reduceEqDiff, hSS, h1, h2, h3, h4, h6, hL, <- hn, AX, JA, w2, w3, hP, hX, g2, g3, hy, Cj, hS, u0, u1, u2]
 all_goals first | omega | simp only [dropS, hP, hX, if_true, if_false, u0, u1, u2] | simp only [dropT, hP, hX, if_true, if_false]
theorem SF {xs : List Int} {k m : K} (h : fits [.x, .i .i64, .i .i64, .i .i64, .i .i64, .x, k, m] xs) : ∃ S now bu le mo T i d, xs = [S, now, bu, le, mo, T, i, d] := by
 have := Ao h
 match xs, this with
 | [a, b, c, d, e, f, g, h], _ => exact ⟨_, _, _, _, _, _, _, _, rfl⟩
theorem IE (now d : Int) : 0 <= lvF now d /\ lvF now d <= 3 := by
 unfold lvF
 repeat' split
 all_goals omega
theorem US (now d : Int) : 0 <= kW now d /\ kW now d < 2049 := by
 unfold kW
 have := IE now d
 split <;> omega
set_option maxHeartbeats 8000000 in
theorem ok49 : EntryOK Try.prog G0 e49 := cCok.entryP mixed ev_49 _ rfl _ rfl fun xs hf hp => by
 obtain ⟨l, hl, hF⟩ := AN (l0 := cC.l)
 show SC.tt cC.l.F _ = true /\ Aq e49.fn _ cC.l.F _ _ _ _
 rw [hl]
 have F69 := FC (k := 69) rfl (hF e69 (by rfl) (by decide))
 have F70 := FC (k := 70) rfl (hF e70 (by rfl) (by decide))
 have hSS := Jj F69 F70
 obtain ⟨S, now, bu, le, mo, T, i, d, rfl⟩ := SF hf
 obtain ⟨h0, h1, h2, h3, h4, h5, h6, h7, _⟩ := hf
 simp only [Ad, A0] at h1 h2 h3 h4 h6 h7
 obtain ⟨Q, p1, p2, p3, p4, p5, p6⟩ := hp
 simp only [lenT, T5, S3, nowW, idW, ewA, ewL, preC, binI, dvI, shI, cmpB, env, bi, List.headD, List.tail, List.map, Nat.reduceAdd] at p1 p2 p3 p4 p5 p6
 have hle := p1.le
 have hct := p1.ct
 obtain ⟨n, hn⟩ : ∃ n, n = i.toNat := ⟨_, rfl⟩
 have hl : n < (dc T).length := by omega
 have hlv := IE now d
 have hb := Cc (lvF now d) p6.1
 have hk := US now d
 obtain ⟨lv, elv⟩ : ∃ lv, lv = lvF now d := ⟨_, rfl⟩
 obtain ⟨ix, eix⟩ : ∃ ix, ix = blk (lvF now d) d % 512 := ⟨_, rfl⟩
 have hix : 0 <= ix /\ ix < 512 := by omega
 have f0 : e70.fn 0 [S, now, bu, le, mo, T, d] = lv := elv.symm
 have f1 : e70.fn 1 [S, now, bu, le, mo, T, d] = ix := eix.symm
 have y70 : e70.pre [S, now, bu, le, mo, T, d] := ⟨p5.1, p5.2, p6⟩
 rw [<- elv] at hlv
 have wt1 := p1.lk.tw.set (vs := [lv, ix]) (j := 0) hl (by simp)
 have wt2 := wt1.set (vs := [d]) (j := 4) hl (by simp)
 have r4 : gC (setC (setC (dc T) n 0 [lv, ix]) n 4 [d]) n 4 = d := by rw [wt1.c1 hl (by decide), if_pos ⟨rfl, rfl⟩]
 have r0 : gC (setC (setC (dc T) n 0 [lv, ix]) n 4 [d]) n 0 = lv := by rw [wt1.c1 hl (by decide), if_neg (by omega), p1.lk.tw.c hl (by simp), if_pos ⟨rfl, by decide, by simp⟩]; rfl
 have r1 : gC (setC (setC (dc T) n 0 [lv, ix]) n 4 [d]) n 1 = ix := by rw [wt1.c1 hl (by decide), if_neg (by omega), p1.lk.tw.c hl (by simp), if_pos ⟨rfl, by decide, by simp⟩]; rfl
 have hL : e69.fn 0 [S, now, bu, le, mo, cd (setC (setC (dc T) n 0 [lv, ix]) n 4 [d]), i] = kW now d := by
  show locI now (dc (cd _)) i.toNat = _
  rw [Ac, <- hn]
  unfold locI kW
  rw [r4, r0, r1, elv, eix]
 have rT1 : rowsOK k5 (setC (setC (dc T) n 0 [lv, ix]) n 4 [d]) := by
  refine Ap (Ap p1.rT hl ?_ (by simp [k5])) (by rw [Cj]; exact hl) ?_ (by simp [k5])
  ·exact ⟨i64w (by omega) (by omega), i64w (by omega) (by omega), trivial⟩
  ·exact ⟨h7, trivial⟩
 have eix' : blk lv d % 512 = ix := by rw [elv]; exact eix.symm
 have hy : e69.pre [S, now, bu, le, mo, cd (setC (setC (dc T) n 0 [lv, ix]) n 4 [d]), i] := by
  show rowsOK k5 (dc (cd _)) /\ (dc (cd _)).length <= 4096 /\ 0 <= i /\ i < ((dc (cd _)).length : Int) /\ ofOK now (dc (cd _)) i.toNat
  rw [Ac, Cj, Cj, <- hn]
  exact ⟨rT1, hct.2, p2, p3, fun _ => by rw [r0, r1]; omega⟩
 obtain ⟨K, hK⟩ : ∃ K, K = (kW now d).toNat := ⟨_, rfl⟩
 have hK9 : K < 2049 := by omega
 have hS := p1.lk.sw.1
 obtain ⟨a0, a1, a2⟩ := p1.lk.hd K hK9
 have hla : 0 <= gC (dc S) K 1 /\ gC (dc S) K 1 <= ((dc T).length : Int) := by rw [a1]; exact ⟨AW _, DA fun a ha => p1.lk.qc _ a ha⟩
 have hcr : 0 <= gC (dc S) K 2 /\ gC (dc S) K 2 <= 4096 := by
  rw [a2]
  have h1 := Ec (p1.lk.nd K) fun a ha => p1.lk.qc _ a ha
  omega
 have u0 : ∀ v, gC (setC (dc S) K 0 [v]) K 2 = gC (dc S) K 2 := fun v => by rw [p1.lk.sw.c1 hK9 (by decide), if_neg (by omega)]
 have u1 : ∀ v, gC (setC (dc S) K 1 [v]) K 2 = gC (dc S) K 2 := fun v => by rw [p1.lk.sw.c1 hK9 (by decide), if_neg (by omega)]
 have u2 : ∀ v w, gC (setC (setC (dc S) K 0 [v]) K 1 [w]) K 2 = gC (dc S) K 2 := fun v w => by rw [(p1.lk.sw.set hK9 (by simp)).c1 hK9 (by decide), if_neg (by omega), u0]
 have wla : IntKind.i64.wrap (gC (dc S) K 1) = gC (dc S) K 1 := i64w (by omega) (by omega)
 have e1 : ((n : Nat) : Int) = i := by omega
 by_cases hP : 0 < gC (dc S) K 1 <;> refine ⟨?_, ?_, ?_, ?_, ?_, ?_, ?_, trivial⟩
 all_goals simp (disch := omega) only [SC, Nc, Nd, Eb, KD, Nf, KE, Ng, KF, Nh, Qj, Lh, N3, VZ, e49, fn49, S3, T5, nowW, idW, ewA, ewL, preC, binI, dvI, shI, cmpB, env, bi, List.headD, List.tail, List.map, Nat.reduceAdd, ewB, ewM, if_true, if_false, implies_true, forall_const, ne_eq, reduceCtorEq, Int.reduceEq, Int.reduceLT, Int.reduceLE, Int.reduceToNat, Int.reduceAdd, Int.reduceSub, Int.reduceMul, Int.reduceNeg, Int.reduceBEq, Nat.reduceLT, Nat.reduceEqDiff, hSS, h1, h2, h3, h4, h6, h7, f0, f1, y70, <- hn, AX, JA, hL, hy, <- hK, hP, Cj, hS, u0, u1, u2, wla, <- elv, <- eix]
 all_goals first | omega | simp only [putS, hP, if_true, if_false, u0, u1, u2, e1] | simp only [putT, hP, if_true, if_false, e1, eix']
set_option maxHeartbeats 8000000 in
theorem ok50 : EntryOK Try.prog G0 e50 := cCok.entryP mixed ev_50 _ rfl _ rfl fun xs hf hp => by
 obtain ⟨l, hl, hF⟩ := AN (l0 := cC.l)
 show Pg.tt cC.l.F _ = true /\ Aq e50.fn _ cC.l.F _ _ _ _
 rw [hl]
 obtain ⟨S, now, bu, le, mo, T, i, rfl⟩ := Gj hf
 obtain ⟨h0, h1, h2, h3, h4, h5, h6, _⟩ := hf
 simp only [Ad, A0] at h1 h2 h3 h4 h6
 obtain ⟨Q, p1, p2, p3⟩ := hp
 simp only [ewA, ewL, preC, binI, dvI, shI, cmpB, env, bi, List.headD, List.tail, List.map, Nat.reduceAdd] at p1 p2 p3
 have hle := p1.le
 have hct := p1.ct
 obtain ⟨n, hn⟩ : ∃ n, n = i.toNat := ⟨_, rfl⟩
 have hn8 : n < 2048 := by omega
 have hS := p1.lk.sw.1
 obtain ⟨a0, a1, a2⟩ := p1.lk.hd n (by omega)
 obtain ⟨b0, b1, b2⟩ := p1.lk.hd 2048 (by omega)
 have bnd : ∀ k, (Q k).length <= (dc T).length := fun k => Ec (p1.lk.nd k) fun a ha => p1.lk.qc _ a ha
 have q0 : 0 <= gC (dc S) n 0 /\ gC (dc S) n 0 <= ((dc T).length : Int) := by rw [a0]; exact ⟨C1 _, FW fun a ha => p1.lk.qc _ a ha⟩
 have q1 : 0 <= gC (dc S) n 1 /\ gC (dc S) n 1 <= ((dc T).length : Int) := by rw [a1]; exact ⟨AW _, DA fun a ha => p1.lk.qc _ a ha⟩
 have q2 : 0 <= gC (dc S) n 2 /\ gC (dc S) n 2 <= 4096 := by rw [a2]; have := bnd n; omega
 have q3 : 0 <= gC (dc S) 2048 1 /\ gC (dc S) 2048 1 <= ((dc T).length : Int) := by rw [b1]; exact ⟨AW _, DA fun a ha => p1.lk.qc _ a ha⟩
 have q4 : 0 <= gC (dc S) 2048 2 /\ gC (dc S) 2048 2 <= 4096 := by rw [b2]; have := bnd 2048; omega
 have q5 : gC (dc S) n 2 ≠ 0 -> 0 < gC (dc S) n 0 := fun h => by
  rw [a2] at h
  rw [a0]
  cases hq : Q n with
  | nil => rw [hq] at h; exact absurd rfl h
  | cons a r => simp only [headP]; omega
 have hb := p1.lk.sw
 have v0 : ∀ v j, gC (setC (dc S) 2048 0 [v]) n j = gC (dc S) n j := fun v j => by rw [hb.c1 (by omega) (by decide), if_neg (by omega)]
 have w0 : ∀ v, Wid (setC (dc S) 2048 0 [v]) 2049 3 := fun v => hb.set (by omega) (by simp)
 have v1 : ∀ v, gC (setC (dc S) 2048 0 [v]) 2048 1 = gC (dc S) 2048 1 := fun v => by rw [hb.c1 (by omega) (by decide), if_neg (by omega)]
 have x1 : ∀ v j, gC (setC (dc S) 2048 1 [v]) n j = gC (dc S) n j := fun v j => by rw [hb.c1 (by omega) (by decide), if_neg (by omega)]
 have x2 : ∀ v, gC (setC (dc S) 2048 1 [v]) 2048 2 = gC (dc S) 2048 2 := fun v => by rw [hb.c1 (by omega) (by decide), if_neg (by omega)]
 have y1 : ∀ u v j, gC (setC (setC (dc S) 2048 0 [u]) 2048 1 [v]) n j = gC (dc S) n j := fun u v j => by rw [(w0 u).c1 (by omega) (by decide), if_neg (by omega), v0]
 have y2 : ∀ u v, gC (setC (setC (dc S) 2048 0 [u]) 2048 1 [v]) 2048 2 = gC (dc S) 2048 2 := fun u v => by rw [(w0 u).c1 (by omega) (by decide), if_neg (by omega), hb.c1 (by omega) (by decide), if_neg (by omega)]
 by_cases hc : gC (dc S) n 2 = 0
 ·refine ⟨?_, ?_, ?_, ?_, ?_, ?_, ?_, trivial⟩
  all_goals simp (disch := omega) only [Pg, Iv, KG, KH, Iw, KI, Hw, Ni, Nj, Nk, KJ, G9, Ll, Lm, Ln, SD, e50, fn50, S3, T5, nowW, idW, ewA, ewL, preC, binI, dvI, shI, cmpB, env, bi, List.headD, List.tail, List.map, Nat.reduceAdd, ewB, ewM, if_true, if_false, implies_true, forall_const, ne_eq, reduceCtorEq, Int.reduceEq, Int.reduceLT, Int.reduceLE, Int.reduceToNat, Int.reduceAdd, Int.reduceSub, Int.reduceMul, Int.reduceNeg, Int.reduceBEq, Nat.reduceLT, Nat.reduceEqDiff, h1, h2, h3, h4, h6, <- hn, AX, JA, hc, Cj, hS]
  all_goals omega
 ·by_cases hP : 0 < gC (dc S) 2048 1 <;> refine ⟨?_, ?_, ?_, ?_, ?_, ?_, ?_, trivial⟩
  all_goals simp (disch := omega) only [Pg, Iv, KG, KH, Iw, KI, Hw, Ni, Nj, Nk, KJ, G9, Ll, Lm, Ln, SD, e50, fn50, S3, T5, nowW, idW, ewA, ewL, preC, binI, dvI, shI, cmpB, env, bi, List.headD, List.tail, List.map, Nat.reduceAdd, ewB, ewM, if_true, if_false, implies_true, forall_const, ne_eq, reduceCtorEq, Int.reduceEq, Int.reduceLT, Int.reduceLE, Int.reduceToNat, Int.reduceAdd, Int.reduceSub, Int.reduceMul, Int.reduceNeg, Int.reduceBEq, Nat.reduceLT, Nat.reduceEqDiff, h1, h2, h3, h4, h6, <- hn, AX, JA, hc, hP, Cj, hS, v0, v1, x1, x2, y1, y2]
  all_goals first | omega | simp only [joinS, hP, if_true, if_false, v0, v1, x1, x2, y1, y2] | simp only [joinT, hP, if_true, if_false]
theorem wK_lt {k now : Int} (h : 0 <= k) (h3 : k <= 3) : wK k now < 2048 := by unfold wK; omega
set_option maxHeartbeats 8000000 in
theorem ok51 : EntryOK Try.prog G0 e51 := cBok.entryP mixed ev_51 _ rfl _ rfl fun xs hf hp => by
 obtain ⟨l, hl, hF⟩ := AN (l0 := cB.l)
 show SE.tt cB.l.F _ = true /\ Aq e51.fn _ cB.l.F _ _ _ _
 rw [hl]
 have F71 := FC (k := 71) rfl (hF e71 (by rfl) (by decide))
 have hSS := F71
 obtain ⟨S, now, bu, le, mo, T, rfl⟩ := No hf
 obtain ⟨h0, h1, h2, h3, h4, h5, _⟩ := hf
 simp only [Ad, A0] at h1 h2 h3 h4
 obtain ⟨p1, p2, p3, p4⟩ := hp
 simp only [S3, nowW, ewA, ewL, preC, binI, dvI, shI, cmpB, env, bi, List.headD, List.tail, List.map, Nat.reduceAdd] at p1 p2 p3 p4
 have f : ∀ k t, e71.fn 0 [k, t] = blk k t := fun _ _ => rfl
 have n1 := Cc 1 p3
 have n2 := Cc 2 p3
 have n3 := Cc 3 p3
 have y1 : e71.pre [1, now] := ⟨by show (0 : Int) <= 1; decide, by show (1 : Int) <= 4; decide⟩
 have y2 : e71.pre [2, now] := ⟨by show (0 : Int) <= 2; decide, by show (2 : Int) <= 4; decide⟩
 have y3 : e71.pre [3, now] := ⟨by show (0 : Int) <= 3; decide, by show (3 : Int) <= 4; decide⟩
 have t1 : (blk 1 now + 1).tmod 512 = (blk 1 now + 1) % 512 := Int.tmod_eq_emod_of_nonneg (by omega)
 have t2 : (blk 2 now + 1).tmod 512 = (blk 2 now + 1) % 512 := Int.tmod_eq_emod_of_nonneg (by omega)
 have t3 : (blk 3 now + 1).tmod 512 = (blk 3 now + 1) % 512 := Int.tmod_eq_emod_of_nonneg (by omega)
 have cw : ∀ k j, k < 2049 -> j < 3 -> IntKind.i64.wrap (gC (dc S) k j) = gC (dc S) k j := fun k j hk hj => by
  match j, hj with
  | 0, _ | 1, _ | 2, _ => exact DX p1 (by omega) rfl
 refine ⟨?_, ?_, trivial⟩
 ·simp (disch := omega) only [SE, Ix, Nl, Iy, Iz, IA, Nm, IB, IC, ID, Nn, Ha, ewA, ewL, preC, binI, dvI, shI, cmpB, env, bi, List.headD, List.tail, List.map, Nat.reduceAdd, ewB, ewM, if_true, if_false, implies_true, forall_const, ne_eq, reduceCtorEq, Int.reduceEq, Int.reduceLT, Int.reduceLE, Int.reduceToNat, Int.reduceAdd, Int.reduceSub, Int.reduceMul, Int.reduceNeg, Int.reduceBEq, Nat.reduceLT, Nat.reduceEqDiff, hSS, h1, f, y1, y2, y3, t1, t2, t3, AX, cw, p2]
  omega
 ·simp (disch := omega) only [V1, Ix, Nl, Iy, Iz, IA, Nm, IB, IC, ID, Nn, Ha, e51, wtF, wK, S3, nowW, ewA, ewL, preC, binI, dvI, shI, cmpB, env, bi, List.headD, List.tail, List.map, Nat.reduceAdd, ewB, ewM, if_true, if_false, implies_true, forall_const, ne_eq, reduceCtorEq, Int.reduceEq, Int.reduceLT, Int.reduceLE, Int.reduceToNat, Int.reduceAdd, Int.reduceSub, Int.reduceMul, Int.reduceNeg, Int.reduceBEq, Nat.reduceLT, Nat.reduceEqDiff, hSS, h1, f, y1, y2, y3, t1, t2, t3, AX, cw, p2]
  rw [Int.add_comm 512, Int.add_comm 1024, Int.add_comm 1536]
  have g1 := cw ((blk 1 now + 1) % 512 + 512).toNat 0 (by omega) (by decide)
  have g2 := cw ((blk 2 now + 1) % 512 + 1024).toNat 0 (by omega) (by decide)
  have g3 := cw ((blk 3 now + 1) % 512 + 1536).toNat 0 (by omega) (by decide)
  by_cases c1 : 0 < gC (dc S) ((blk 1 now + 1) % 512 + 512).toNat 2
  ·rw [if_pos c1, if_pos (fun h => absurd c1 (by omega)), if_pos c1, g1]
  ·rw [if_neg c1]
   by_cases c2 : 0 < gC (dc S) ((blk 2 now + 1) % 512 + 1024).toNat 2
   ·rw [if_pos c2, if_pos (fun _ => ⟨by omega, fun h => absurd c2 (by omega)⟩), if_neg c1, if_pos c2, g2]
   ·rw [if_neg c2]
    by_cases c3 : 0 < gC (dc S) ((blk 3 now + 1) % 512 + 1536).toNat 2
    ·rw [if_pos c3, if_pos (fun _ => ⟨by omega, fun _ => ⟨by omega, c3⟩⟩), if_neg c1, if_neg c2, g3]
    ·rw [if_neg c3, if_neg (fun h => c3 ((h (by omega)).2 (by omega)).2)]; rfl
theorem blk0 (t : Int) : blk 0 t = t := by simp [blk]
theorem blk1 (t : Int) : blk 1 t = t / 256 := rfl
theorem blk2 (t : Int) : blk 2 t = t / 65536 := rfl
theorem blk3 (t : Int) : blk 3 t = t / 16777216 := rfl
theorem blk4 (t : Int) : blk 4 t = t / 4294967296 := rfl
def cnt (n : Nat) (p : Nat -> Bool) : Nat := (List.range n).countP p
theorem Ed (n : Nat) (p : Nat -> Bool) : cnt (n + 1) p = cnt n p + (if p n = true then 1 else 0) := by
 unfold cnt; rw [List.range_succ, List.countP_append, List.countP_singleton]
theorem HV {p q : Nat -> Bool} : ∀ {n : Nat}, (∀ j < n, p j = q j) -> cnt n p = cnt n q
 | 0, _ => rfl
 | n + 1, h => by rw [Ed, Ed, HV (n := n) fun j hj => h j (by omega), h n (by omega)]
theorem Gt (p : Nat -> Bool) : ∀ n : Nat, cnt n p <= n
 | 0 => Nat.le_refl _
 | n + 1 => by rw [Ed]; have := Gt p n; split <;> omega
theorem JB {p q : Nat -> Bool} : ∀ {n : Nat}, (∀ j < n, p j = true -> q j = true) -> cnt n p <= cnt n q
 | 0, _ => Nat.le_refl _
 | n + 1, h => by
   rw [Ed, Ed]
   have h1 := JB (n := n) fun j hj => h j (by omega)
   have h2 := h n (by omega)
   cases hp : p n <;> cases hq : q n <;> simp_all <;> omega
theorem Lo {p : Nat -> Bool} : ∀ {n i : Nat}, i < n -> p i = true -> 0 < cnt n p
 | n + 1, i, hi, hp => by
   rw [Ed]
   by_cases h : i = n
   ·subst h; rw [if_pos hp]; omega
   ·have := Lo (n := n) (i := i) (by omega) hp; omega
theorem Mc {p : Nat -> Bool} {n : Nat} (h : ∀ j < n, p j = false) : cnt n p = 0 := by
 unfold cnt
 rw [List.countP_eq_zero]
 intro j hj
 rw [h j (List.mem_range.1 hj)]; decide
theorem Lp {p q : Nat -> Bool} {i : Nat} : ∀ {n : Nat}, i < n -> (∀ j < n, j ≠ i -> q j = p j) -> (cnt n q : Int) = cnt n p - (if p i = true then 1 else 0) + (if q i = true then 1 else 0)
 | n + 1, hi, h => by
   rw [Ed, Ed]
   by_cases hn : i = n
   ·subst hn
    rw [HV (n := i) (p := q) (q := p) fun j hj => h j (by omega) (by omega)]
    cases p i <;> cases q i <;> simp <;> omega
   ·have := Lp (n := n) (i := i) (by omega) fun j hj hne => h j (by omega) hne
    have hq := h n (by omega) (fun e => hn e.symm)
    rw [hq]
    split <;> omega
def Bn (now : Int) (T : RL) (i : Nat) : Bool := decide (now < gC T i 4) && decide (1 <= gC T i 0) && decide (blk (gC T i 0) (gC T i 4) = blk (gC T i 0) now + 1)
def cntW (now : Int) (T : RL) : Nat := cnt T.length (Bn now T)
def cntD (T : RL) : Nat := cnt T.length fun i => decide (0 < gC T i 4)
structure WOK (now bu le : Int) (S T : RL) (Q : Nat -> List Nat) (w : Int) : Prop where
 tm : 0 <= now /\ now <= 1099511627776
 bg : 1 <= bu /\ bu <= 4096
 ct : 0 < T.length /\ T.length <= 4096 /\ (T.length : Int) <= 256 * bu
 rS : rowsOK k3 S
 rT : rowsOK k5 T
 lk : Lk T S Q T.length
 inn : ∀ i < T.length, 0 < gC T i 4 -> i ∈ Q (locI now T i).toNat
 out : ∀ k i, i ∈ Q k -> 0 < gC T i 4 /\ (locI now T i).toNat = k
 dr : ∀ i < T.length, 0 <= gC T i 4 /\ gC T i 4 <= now + 2147483648
 pl : ∀ i < T.length, now < gC T i 4 -> (0 <= gC T i 0 /\ gC T i 0 <= 3) /\ gC T i 1 = blk (gC T i 0) (gC T i 4) % 512 /\ (1 <= gC T i 0 -> blk (gC T i 0) now < blk (gC T i 0) (gC T i 4)) /\ (gC T i 0 < 3 -> blk (gC T i 0 + 1) (gC T i 4) <= blk (gC T i 0 + 1) now + 1)
 wt : (cntW now T : Int) <= w
 ln : le = (cntD T : Int)
theorem WOK.of {now bu le w : Int} {S T : RL} {Q : Nat -> List Nat} (h : WOK now bu le S T Q w) {i : Nat} (hi : i < T.length) : ofOK now T i := fun hd => by
 obtain ⟨p1, p2, _, _⟩ := h.pl i hi hd
 rw [p2]
 refine ⟨p1.1, by omega, Int.emod_nonneg _ (by decide), Int.emod_lt_of_pos _ (by decide)⟩
theorem WOK.le_rng {now bu le w : Int} {S T : RL} {Q : Nat -> List Nat} (h : WOK now bu le S T Q w) : 0 <= le /\ le <= 4096 := by
 have := Gt (fun i => decide (0 < gC T i 4)) T.length
 have h1 := h.ct
 rw [h.ln]; unfold cntD; omega
theorem w64 {v : Int} (h1 : -9223372036854775808 <= v) (h2 : v <= 9223372036854775807) : K.norm kJ v = v := i64w h1 h2
theorem SG {S : RL} {k : Nat} {p n : Int} {c : Nat} (h : rowsOK k3 S) (hw : Wid S 2049 3) (hk : k < 2049) (hp : 0 <= p /\ p <= c) (hn : 0 <= n /\ n <= c) (hc : c <= 4096) (hcc : 0 <= gC S k 2 /\ gC S k 2 <= 4096) : rowsOK k3 (dropS S k p n) := by
 have hl := hw.1
 have s1 : rowsOK k3 (if 0 < p then S else setC S k 0 [n]) /\ Wid (if 0 < p then S else setC S k 0 [n]) 2049 3 /\ gC (if 0 < p then S else setC S k 0 [n]) k 2 = gC S k 2 := by
  split
  ·exact ⟨h, hw, rfl⟩
  ·exact ⟨Ap h (by omega) ⟨w64 (by omega) (by omega), trivial⟩ (by simp [k3]), hw.set hk (by simp), by rw [hw.c1 hk (by decide), if_neg (by omega)]⟩
 obtain ⟨S1, e1⟩ : ∃ S1, S1 = if 0 < p then S else setC S k 0 [n] := ⟨_, rfl⟩
 rw [<- e1] at s1
 obtain ⟨a1, a2, a3⟩ := s1
 have s2 : rowsOK k3 (if 0 < n then S1 else setC S1 k 1 [p]) /\ Wid (if 0 < n then S1 else setC S1 k 1 [p]) 2049 3 /\ gC (if 0 < n then S1 else setC S1 k 1 [p]) k 2 = gC S k 2 := by
  split
  ·exact ⟨a1, a2, a3⟩
  ·exact ⟨Ap a1 (by rw [a2.1]; omega) ⟨w64 (by omega) (by omega), trivial⟩ (by simp [k3]), a2.set hk (by simp), by rw [a2.c1 hk (by decide), if_neg (by omega), a3]⟩
 obtain ⟨S2, e2⟩ : ∃ S2, S2 = if 0 < n then S1 else setC S1 k 1 [p] := ⟨_, rfl⟩
 rw [<- e2] at s2
 obtain ⟨b1, b2, b3⟩ := s2
 have e3 : dropS S k p n = setC S2 k 2 [gC S2 k 2 - 1] := by unfold dropS; rw [e2, e1]
 rw [e3, b3]
 exact Ap b1 (by rw [b2.1]; omega) ⟨w64 (by omega) (by omega), trivial⟩ (by simp [k3])
theorem SH {T S : RL} {Q : Nat -> List Nat} {cap k i : Nat} {A B : List Nat} (h : rowsOK k5 T) (hk : Lk T S Q cap) (hq : Q k = A ++ i :: B) (hc : cap <= 4096) : rowsOK k5 (dropT T i) := by
 obtain ⟨c1, c2⟩ := hk.ch k A i B hq
 have hic : i < cap := hk.qc k i (by rw [hq]; simp)
 have hA : lastP A <= cap := DA fun a ha => hk.qc k a (by rw [hq]; simp [ha])
 have hB : headP B <= cap := FW fun a ha => hk.qc k a (by rw [hq]; simp [ha])
 have hA0 := AW A
 have hB0 := C1 B
 have hw := hk.tw
 have s1 : rowsOK k5 (if 0 < lastP A then setC T (lastP A - 1).toNat 3 [headP B] else T) /\ Wid (if 0 < lastP A then setC T (lastP A - 1).toNat 3 [headP B] else T) cap 5 := by
  split
  ·exact ⟨Ap h (by rw [hw.1]; omega) ⟨w64 (by omega) (by omega), trivial⟩ (by simp [k5]), hw.set (by omega) (by simp)⟩
  ·exact ⟨h, hw⟩
 obtain ⟨T1, e1⟩ : ∃ T1, T1 = if 0 < lastP A then setC T (lastP A - 1).toNat 3 [headP B] else T := ⟨_, rfl⟩
 rw [<- e1] at s1
 obtain ⟨a1, a2⟩ := s1
 have s2 : rowsOK k5 (if 0 < headP B then setC T1 (headP B - 1).toNat 2 [lastP A] else T1) /\ Wid (if 0 < headP B then setC T1 (headP B - 1).toNat 2 [lastP A] else T1) cap 5 := by
  split
  ·exact ⟨Ap a1 (by rw [a2.1]; omega) ⟨w64 (by omega) (by omega), trivial⟩ (by simp [k5]), a2.set (by omega) (by simp)⟩
  ·exact ⟨a1, a2⟩
 obtain ⟨T2, e2⟩ : ∃ T2, T2 = if 0 < headP B then setC T1 (headP B - 1).toNat 2 [lastP A] else T1 := ⟨_, rfl⟩
 rw [<- e2] at s2
 have e3 : dropT T i = setC T2 i 0 [0, 0, 0, 0, 0] := by unfold dropT; simp only [c1, c2]; rw [e2, e1]
 rw [e3]
 exact Ap s2.1 (by rw [s2.2.1]; exact hic) ⟨rfl, rfl, rfl, rfl, rfl, trivial⟩ (by simp [k5])
theorem WOK.drop {now bu le w : Int} {S T : RL} {Q : Nat -> List Nat} {i : Nat} (h : WOK now bu le S T Q w) (hi : i < T.length) (hd : 0 < gC T i 4) :
 ∃ A B, Q (locI now T i).toNat = A ++ i :: B /\ WOK now bu (le - 1) (dropS S (locI now T i).toNat (gC T i 2) (gC T i 3)) (dropT T i) (uQ Q (locI now T i).toNat (A ++ B)) w /\
   (dropT T i).length = T.length /\ (∀ y, y ≠ i -> gC (dropT T i) y 0 = gC T y 0 /\ gC (dropT T i) y 1 = gC T y 1 /\ gC (dropT T i) y 4 = gC T y 4) /\ gC (dropT T i) i 4 = 0 := by
 have hm := h.inn i hi hd
 obtain ⟨A, B, hq⟩ := List.append_of_mem hm
 obtain ⟨t1, t2⟩ := Jy h.lk hq
 have hl : (dropT T i).length = T.length := t1.1
 have hy : ∀ y, y ≠ i -> gC (dropT T i) y 0 = gC T y 0 /\ gC (dropT T i) y 1 = gC T y 1 /\ gC (dropT T i) y 4 = gC T y 4 := fun y hy => by
  rw [t2, t2, t2]; simp [hy]
 have hz : ∀ j, j < 5 -> gC (dropT T i) i j = 0 := fun j hj => by rw [t2, if_pos ⟨rfl, hj⟩]
 have hlk := h.lk.drop hq
 have hnd := h.lk.nd (locI now T i).toNat
 rw [hq] at hnd
 obtain ⟨n1, n2, n3⟩ := List.nodup_append.1 hnd
 obtain ⟨n4, n5⟩ := List.nodup_cons.1 n2
 have hiA : i ∉ A := fun hA => n3 i hA i (by simp) rfl
 have hloc : ∀ y, y ≠ i -> locI now (dropT T i) y = locI now T y := fun y hy' => by
  obtain ⟨e0, e1, e4⟩ := hy y hy'
  unfold locI; rw [e0, e1, e4]
 have hnot : ∀ k, i ∉ uQ Q (locI now T i).toNat (A ++ B) k := fun k hk => by
  by_cases hkk : k = (locI now T i).toNat
  ·rw [hkk, Bp] at hk
   rcases List.mem_append.1 hk with h1 | h1
   ·exact hiA h1
   ·exact n4 h1
  ·rw [BR Q _ hkk] at hk
   exact hkk (h.lk.dj _ _ i hk hm)
 refine ⟨A, B, hq, ⟨h.tm, h.bg, by rw [hl]; exact h.ct, ?_, ?_, by rw [hl]; exact hlk, fun y hyl hyd => ?_, fun k y hk => ?_, fun y hyl => ?_, fun y hyl hyd => ?_, ?_, ?_⟩, hl, hy, hz 4 (by decide)⟩
 ·
  have hk : (locI now T i).toNat < 2049 := h.lk.q_lt hm
  exact SG h.rS h.lk.sw hk (by rw [(h.lk.ch _ _ _ _ hq).1]; exact ⟨AW _, DA fun a ha => h.lk.qc _ a (by rw [hq]; simp [ha])⟩)
   (by rw [(h.lk.ch _ _ _ _ hq).2]; exact ⟨C1 _, FW fun a ha => h.lk.qc _ a (by rw [hq]; simp [ha])⟩) h.ct.2.1
   (by
    rw [(h.lk.hd _ hk).2.2]
    have := Ec (h.lk.nd (locI now T i).toNat) fun a ha => h.lk.qc _ a ha
    have := h.ct
    omega)
 ·exact SH h.rT h.lk hq h.ct.2.1
 ·rw [hl] at hyl
  by_cases he : y = i
  ·subst he; rw [hz 4 (by decide)] at hyd; omega
  ·rw [hloc y he]
   rw [(hy y he).2.2] at hyd
   have h1 := h.inn y hyl hyd
   by_cases hk : (locI now T y).toNat = (locI now T i).toNat
   ·rw [hk, Bp]
    rw [hk, hq] at h1
    simp only [List.mem_append, List.mem_cons] at h1 ⊢
    rcases h1 with h1 | h1 | h1
    ·exact Or.inl h1
    ·exact absurd h1 he
    ·exact Or.inr h1
   ·rw [BR Q _ hk]; exact h1
 ·have he : y ≠ i := fun e => hnot k (e ▸ hk)
  rw [hloc y he, (hy y he).2.2]
  by_cases hkk : k = (locI now T i).toNat
  ·subst hkk
   rw [Bp] at hk
   exact h.out _ y (by rw [hq]; rcases List.mem_append.1 hk with h1 | h1 <;> simp [h1])
  ·rw [BR Q _ hkk] at hk
   exact h.out _ y hk
 ·rw [hl] at hyl
  by_cases he : y = i
  ·subst he
   rw [hz 4 (by decide)]
   have := h.tm; omega
  ·rw [(hy y he).2.2]; exact h.dr y hyl
 ·rw [hl] at hyl
  by_cases he : y = i
  ·subst he
   rw [hz 4 (by decide)] at hyd
   have := h.tm; omega
  ·obtain ⟨e0, e1, e4⟩ := hy y he
   rw [e4] at hyd
   rw [e0, e1, e4]; exact h.pl y hyl hyd
 ·refine Int.le_trans ?_ h.wt
  unfold cntW
  rw [hl]
  refine Int.ofNat_le.2 (JB fun y hyl hw => ?_)
  by_cases he : y = i
  ·subst he
   unfold Bn at hw
   rw [hz 4 (by decide)] at hw
   simp only [Bool.and_eq_true, decide_eq_true_eq] at hw
   have := h.tm; omega
  ·obtain ⟨e0, e1, e4⟩ := hy y he
   unfold Bn at hw ⊢
   rw [e0, e4] at hw
   exact hw
 ·rw [h.ln]
  unfold cntD
  rw [hl]
  have := Lp (p := fun i => decide (0 < gC T i 4)) (q := fun y => decide (0 < gC (dropT T i) y 4)) hi fun y _ he => by rw [(hy y he).2.2]
  rw [this]
  simp only [hd, hz 4 (by decide)]
  simp
theorem UT {T : RL} {cap i : Nat} {lv ix d la : Int} (h : rowsOK k5 T) (hw : Wid T cap 5) (hi : i < cap) (hc : cap <= 4096) (h1 : 0 <= lv /\ lv <= 3) (h2 : 0 <= ix /\ ix < 512) (h3 : 0 <= d /\ d <= 1101659111424) (h4 : 0 <= la /\ la <= cap) : rowsOK k5 (putT T i lv ix d la) := by
 have w1 := hw.set (vs := [lv, ix]) (j := 0) hi (by simp)
 have w2 := w1.set (vs := [d]) (j := 4) hi (by simp)
 have w3 := w2.set (vs := [la]) (j := 2) hi (by simp)
 have w4 := w3.set (vs := [0]) (j := 3) hi (by simp)
 have r1 := Ap (j := 0) (vs := [lv, ix]) h (by rw [hw.1]; exact hi) ⟨w64 (by omega) (by omega), w64 (by omega) (by omega), trivial⟩ (by simp [k5])
 have r2 := Ap (j := 4) (vs := [d]) r1 (by rw [w1.1]; exact hi) ⟨w64 (by omega) (by omega), trivial⟩ (by simp [k5])
 have r3 := Ap (j := 2) (vs := [la]) r2 (by rw [w2.1]; exact hi) ⟨w64 (by omega) (by omega), trivial⟩ (by simp [k5])
 have r4 := Ap (j := 3) (vs := [0]) r3 (by rw [w3.1]; exact hi) ⟨rfl, trivial⟩ (by simp [k5])
 unfold putT
 simp only
 split
 ·exact Ap r4 (by rw [w4.1]; omega) ⟨w64 (by omega) (by omega), trivial⟩ (by simp [k5])
 ·exact r4
theorem UU {S : RL} {k i : Nat} (h : rowsOK k3 S) (hw : Wid S 2049 3) (hk : k < 2049) (hi : i < 4096) (hcc : 0 <= gC S k 2 /\ gC S k 2 <= 4096) : rowsOK k3 (putS S k i) := by
 obtain ⟨S1, e1⟩ : ∃ S1, S1 = if 0 < gC S k 1 then S else setC S k 0 [(i : Int) + 1] := ⟨_, rfl⟩
 have s1 : rowsOK k3 S1 /\ Wid S1 2049 3 /\ gC S1 k 2 = gC S k 2 := by
  rw [e1]
  split
  ·exact ⟨h, hw, rfl⟩
  ·exact ⟨Ap h (by rw [hw.1]; exact hk) ⟨w64 (by omega) (by omega), trivial⟩ (by simp [k3]), hw.set hk (by simp), by rw [hw.c1 hk (by decide), if_neg (by omega)]⟩
 obtain ⟨a1, a2, a3⟩ := s1
 have b1 := Ap (j := 1) (vs := [(i : Int) + 1]) a1 (by rw [a2.1]; exact hk) ⟨w64 (by omega) (by omega), trivial⟩ (by simp [k3])
 have b2 := a2.set (j := 1) (vs := [(i : Int) + 1]) hk (by simp)
 have b3 : gC (setC S1 k 1 [(i : Int) + 1]) k 2 = gC S k 2 := by rw [a2.c1 hk (by decide), if_neg (by omega), a3]
 have e3 : putS S k i = setC (setC S1 k 1 [(i : Int) + 1]) k 2 [gC (setC S1 k 1 [(i : Int) + 1]) k 2 + 1] := by unfold putS; rw [e1]
 rw [e3, b3]
 exact Ap b1 (by rw [b2.1]; exact hk) ⟨w64 (by omega) (by omega), trivial⟩ (by simp [k3])
theorem VI (now d : Int) : (1 <= lvF now d -> blk (lvF now d) now + 1 < blk (lvF now d) d) /\ (lvF now d < 3 -> blk (lvF now d + 1) d <= blk (lvF now d + 1) now + 1) := by
 unfold lvF
 by_cases h1 : blk 1 d <= blk 1 now + 1
 ·rw [if_pos h1]; exact ⟨fun h => by omega, fun _ => h1⟩
 ·rw [if_neg h1]
  by_cases h2 : blk 2 d <= blk 2 now + 1
  ·rw [if_pos h2]; exact ⟨fun _ => by omega, fun _ => h2⟩
  ·rw [if_neg h2]
   by_cases h3 : blk 3 d <= blk 3 now + 1
   ·rw [if_pos h3]; exact ⟨fun _ => by omega, fun _ => h3⟩
   ·rw [if_neg h3]; exact ⟨fun _ => by omega, fun h => by omega⟩
theorem WOK.put {now bu le w d : Int} {S T : RL} {Q : Nat -> List Nat} {i : Nat} (h : WOK now bu le S T Q w) (hi : i < T.length) (hz : gC T i 4 = 0) (hd : now < d /\ d <= now + 2147483648) :
 WOK now bu (le + 1) (putS S (kW now d).toNat i) (putT T i (lvF now d) (blk (lvF now d) d % 512) d (gC S (kW now d).toNat 1)) (uQ Q (kW now d).toNat (Q (kW now d).toNat ++ [i])) w /\
  (putT T i (lvF now d) (blk (lvF now d) d % 512) d (gC S (kW now d).toNat 1)).length = T.length /\
  (∀ y, y ≠ i -> gC (putT T i (lvF now d) (blk (lvF now d) d % 512) d (gC S (kW now d).toNat 1)) y 0 = gC T y 0 /\ gC (putT T i (lvF now d) (blk (lvF now d) d % 512) d (gC S (kW now d).toNat 1)) y 1 = gC T y 1 /\ gC (putT T i (lvF now d) (blk (lvF now d) d % 512) d (gC S (kW now d).toNat 1)) y 4 = gC T y 4) /\
  gC (putT T i (lvF now d) (blk (lvF now d) d % 512) d (gC S (kW now d).toNat 1)) i 0 = lvF now d /\ gC (putT T i (lvF now d) (blk (lvF now d) d % 512) d (gC S (kW now d).toNat 1)) i 1 = blk (lvF now d) d % 512 /\
  gC (putT T i (lvF now d) (blk (lvF now d) d % 512) d (gC S (kW now d).toNat 1)) i 4 = d := by
 have htm := h.tm
 have hct := h.ct
 have hn : ∀ m, i ∉ Q m := fun m hm => by have := (h.out m i hm).1; omega
 have hkr := US now d
 have hlv := IE now d
 obtain ⟨k, ek⟩ : ∃ k, k = (kW now d).toNat := ⟨_, rfl⟩
 have hk : k < 2049 := by omega
 have hb := Cc (lvF now d) (t := d) (by omega)
 obtain ⟨l1, l2⟩ := VI now d
 obtain ⟨lv, elv⟩ : ∃ lv, lv = lvF now d := ⟨_, rfl⟩
 obtain ⟨ix, eix⟩ : ∃ ix, ix = blk (lvF now d) d % 512 := ⟨_, rfl⟩
 have hixr : 0 <= ix /\ ix < 512 := by omega
 have hkw : kW now d = lv * 512 + ix := by unfold kW; rw [if_neg (by omega), elv, eix]
 rw [<- ek, <- eix, <- elv]
 rw [<- elv] at hlv l1 l2 eix
 obtain ⟨d0, d1, d2⟩ := h.lk.hd k hk
 have hla : gC S k 1 = 0 \/ ∃ a : Nat, a < T.length /\ a ≠ i /\ gC S k 1 = (a : Int) + 1 := by
  rw [d1]
  rcases EB (Q k) with e | ⟨m, a, e⟩
  ·exact Or.inl (by rw [e]; rfl)
  ·have ha : a ∈ Q k := by rw [e]; simp
   exact Or.inr ⟨a, h.lk.qc k a ha, fun x => hn k (x ▸ ha), by rw [e, BP]⟩
 have hlar : 0 <= gC S k 1 /\ gC S k 1 <= (T.length : Int) := by rw [d1]; exact ⟨AW _, DA fun a ha => h.lk.qc _ a ha⟩
 obtain ⟨t1, t2⟩ := O3 (lv := lv) (ix := ix) (d := d) h.lk.tw hi hla
 have hlk := h.lk.put (lv := lv) (ix := ix) (d := d) hk hi hn
 obtain ⟨T', eT⟩ : ∃ T', T' = putT T i lv ix d (gC S k 1) := ⟨_, rfl⟩
 have hrT := UT h.rT h.lk.tw hi hct.2.1 hlv hixr (by omega) hlar (lv := lv) (ix := ix) (d := d)
 rw [<- eT] at t1 t2 hlk hrT ⊢
 have hl : T'.length = T.length := t1.1
 have hy : ∀ y, y ≠ i -> gC T' y 0 = gC T y 0 /\ gC T' y 1 = gC T y 1 /\ gC T' y 4 = gC T y 4 := fun y hy => by
  rw [t2, t2, t2]; simp [hy]
 have g0 : gC T' i 0 = lv := by rw [t2, if_pos ⟨rfl, by decide⟩]; rfl
 have g1 : gC T' i 1 = ix := by rw [t2, if_pos ⟨rfl, by decide⟩]; rfl
 have g4 : gC T' i 4 = d := by rw [t2, if_pos ⟨rfl, by decide⟩]; rfl
 have hloc : ∀ y, y ≠ i -> locI now T' y = locI now T y := fun y hy' => by
  obtain ⟨e0, e1, e4⟩ := hy y hy'
  unfold locI; rw [e0, e1, e4]
 have hlocI : (locI now T' i).toNat = k := by
  unfold locI; rw [g0, g1, g4, if_neg (by omega), ek, hkw]
 refine ⟨⟨htm, h.bg, by rw [hl]; exact hct, UU h.rS h.lk.sw hk (by omega) (by
  rw [d2]
  have := Ec (h.lk.nd k) fun a ha => h.lk.qc _ a ha
  omega), hrT, by rw [hl]; exact hlk, fun y hyl hyd => ?_, fun m y hm => ?_, fun y hyl => ?_, fun y hyl hyd => ?_, ?_, ?_⟩, hl, hy, g0, g1, g4⟩
 ·rw [hl] at hyl
  by_cases he : y = i
  ·subst he; rw [hlocI, Bp]; simp
  ·rw [hloc y he]
   rw [(hy y he).2.2] at hyd
   have h1 := h.inn y hyl hyd
   by_cases hk' : (locI now T y).toNat = k
   ·rw [hk', Bp]; rw [hk'] at h1; simp [h1]
   ·rw [BR Q _ hk']; exact h1
 ·by_cases hmk : m = k
  ·subst hmk
   rw [Bp] at hm
   rcases List.mem_append.1 hm with h1 | h1
   ·have he : y ≠ i := fun e => hn m (e ▸ h1)
    rw [hloc y he, (hy y he).2.2]; exact h.out m y h1
   ·have : y = i := by simpa using h1
    subst this
    exact ⟨by rw [g4]; omega, hlocI⟩
  ·rw [BR Q _ hmk] at hm
   have he : y ≠ i := fun e => hn m (e ▸ hm)
   rw [hloc y he, (hy y he).2.2]; exact h.out m y hm
 ·rw [hl] at hyl
  by_cases he : y = i
  ·subst he; rw [g4]; omega
  ·rw [(hy y he).2.2]; exact h.dr y hyl
 ·rw [hl] at hyl
  by_cases he : y = i
  ·subst he
   rw [g0, g1, g4]
   exact ⟨hlv, eix, fun h1 => by have := l1 h1; omega, l2⟩
  ·obtain ⟨e0, e1, e4⟩ := hy y he
   rw [e4] at hyd
   rw [e0, e1, e4]; exact h.pl y hyl hyd
 ·refine Int.le_trans ?_ h.wt
  unfold cntW
  rw [hl]
  refine Int.ofNat_le.2 (JB fun y hyl hw => ?_)
  by_cases he : y = i
  ·subst he
   unfold Bn at hw
   rw [g0, g4] at hw
   simp only [Bool.and_eq_true, decide_eq_true_eq] at hw
   have := l1 hw.1.2
   omega
  ·obtain ⟨e0, e1, e4⟩ := hy y he
   unfold Bn at hw ⊢
   rw [e0, e4] at hw
   exact hw
 ·rw [h.ln]
  unfold cntD
  rw [hl]
  have := Lp (p := fun i => decide (0 < gC T i 4)) (q := fun y => decide (0 < gC T' y 4)) hi fun y _ he => by rw [(hy y he).2.2]
  rw [this]
  have hdp : 0 < d := by omega
  simp only [hz, g4, hdp]
  simp
theorem Md {lv now : Int} (h : 1 <= lv /\ lv <= 3) (h0 : 0 <= now) : blk lv (now + 1) = blk lv now \/ (now % 256 = 255 /\ blk lv (now + 1) = blk lv now + 1) := by
 have : lv = 1 \/ lv = 2 \/ lv = 3 := by omega
 rcases this with e | e | e <;> subst e <;> simp only [blk1, blk2, blk3] <;> omega
theorem VJ {lv now : Int} (h : 1 <= lv /\ lv <= 4) (h0 : 0 <= now) : blk lv now <= blk lv (now + 1) := by
 have : lv = 1 \/ lv = 2 \/ lv = 3 \/ lv = 4 := by omega
 rcases this with e | e | e | e <;> subst e <;> simp only [blk1, blk2, blk3, blk4] <;> omega
theorem Rh {T : RL} {cap : Nat} {f bl : Int} (h : Wid T cap 5) (hf : 0 < f /\ f <= cap) (hb : 0 <= bl /\ bl <= cap) : Wid (joinT T f bl) cap 5 /\ ∀ y j, j ≠ 2 -> j ≠ 3 -> gC (joinT T f bl) y j = gC T y j := by
 have s1 : Wid (if 0 < bl then setC T (bl - 1).toNat 3 [f] else T) cap 5 /\ ∀ y j, j ≠ 3 -> gC (if 0 < bl then setC T (bl - 1).toNat 3 [f] else T) y j = gC T y j := by
  split
  ·exact ⟨h.set (by omega) (by simp), fun y j hj => by rw [h.c1 (by omega) (by decide), if_neg (by omega)]⟩
  ·exact ⟨h, fun _ _ _ => rfl⟩
 unfold joinT
 exact ⟨s1.1.set (by omega) (by simp), fun y j h2 h3 => by rw [s1.1.c1 (by omega) (by decide), if_neg (by omega), s1.2 y j h3]⟩
theorem SI {T : RL} {cap : Nat} {f bl : Int} (hr : rowsOK k5 T) (h : Wid T cap 5) (hc : cap <= 4096) (hf : 0 < f /\ f <= cap) (hb : 0 <= bl /\ bl <= cap) : rowsOK k5 (joinT T f bl) := by
 have s1 : Wid (if 0 < bl then setC T (bl - 1).toNat 3 [f] else T) cap 5 /\ rowsOK k5 (if 0 < bl then setC T (bl - 1).toNat 3 [f] else T) := by
  split
  ·exact ⟨h.set (by omega) (by simp), Ap hr (by rw [h.1]; omega) ⟨w64 (by omega) (by omega), trivial⟩ (by simp [k5])⟩
  ·exact ⟨h, hr⟩
 unfold joinT
 exact Ap s1.2 (by rw [s1.1.1]; omega) ⟨w64 (by omega) (by omega), trivial⟩ (by simp [k5])
theorem SJ {S : RL} {k c : Nat} (hr : rowsOK k3 S) (h : Wid S 2049 3) (hk : k < 2048) (hc : c <= 4096) (h0 : 0 <= gC S k 0 /\ gC S k 0 <= c) (h1 : 0 <= gC S k 1 /\ gC S k 1 <= c) (h2 : 0 <= gC S k 2 /\ gC S k 2 <= c) (h3 : 0 <= gC S 2048 2 /\ gC S 2048 2 <= c) : rowsOK k3 (joinS S k) := by
 obtain ⟨S1, e1⟩ : ∃ S1, S1 = if 0 < gC S 2048 1 then S else setC S 2048 0 [gC S k 0] := ⟨_, rfl⟩
 have s1 : Wid S1 2049 3 /\ rowsOK k3 S1 /\ gC S1 2048 2 = gC S 2048 2 := by
  rw [e1]
  split
  ·exact ⟨h, hr, rfl⟩
  ·exact ⟨h.set (by omega) (by simp), Ap hr (by rw [h.1]; omega) ⟨w64 (by omega) (by omega), trivial⟩ (by simp [k3]), by rw [h.c1 (by omega) (by decide), if_neg (by omega)]⟩
 obtain ⟨a1, a2, a3⟩ := s1
 have b1 := a1.set (i := 2048) (j := 1) (vs := [gC S k 1]) (by omega) (by simp)
 have b2 := Ap (i := 2048) (j := 1) (vs := [gC S k 1]) a2 (by rw [a1.1]; omega) ⟨w64 (by omega) (by omega), trivial⟩ (by simp [k3])
 have b3 : gC (setC S1 2048 1 [gC S k 1]) 2048 2 = gC S 2048 2 := by rw [a1.c1 (by omega) (by decide), if_neg (by omega), a3]
 have c1 := b1.set (i := 2048) (j := 2) (vs := [gC S 2048 2 + gC S k 2]) (by omega) (by simp)
 have c2 := Ap (i := 2048) (j := 2) (vs := [gC S 2048 2 + gC S k 2]) b2 (by rw [b1.1]; omega) ⟨w64 (by omega) (by omega), trivial⟩ (by simp [k3])
 have e3 : joinS S k = setC (setC (setC S1 2048 1 [gC S k 1]) 2048 2 [gC (setC S1 2048 1 [gC S k 1]) 2048 2 + gC S k 2]) k 0 [0, 0, 0] := by unfold joinS; rw [e1]
 rw [e3, b3]
 exact Ap c2 (by rw [c1.1]; omega) ⟨rfl, rfl, rfl, trivial⟩ (by simp [k3])
theorem WOK.loc_lt {now bu le w : Int} {S T : RL} {Q : Nat -> List Nat} (h : WOK now bu le S T Q w) {i : Nat} (hi : i < T.length) (hd : now < gC T i 4) : (locI now T i).toNat < 2048 := by
 have := h.of hi hd
 unfold locI; rw [if_neg (by omega)]; omega
theorem WOK.noWait {now bu le : Int} {S T : RL} {Q : Nat -> List Nat} (h : WOK now bu le S T Q (bu * (255 - now % 256))) (hb : now % 256 = 255) {i : Nat} (hi : i < T.length) : Bn now T i = false := by
 have h0 := h.wt
 rw [hb, show (255 : Int) - 255 = 0 by decide, Int.mul_zero] at h0
 cases hw : Bn now T i
 ·rfl
 ·have := Lo hi hw
  unfold cntW at h0; omega
theorem WOK.due {now bu le : Int} {S T : RL} {Q : Nat -> List Nat} (h : WOK now bu le S T Q (bu * (255 - now % 256))) (i : Nat) : i ∈ Q ((now + 1) % 512).toNat ↔ i < T.length /\ gC T i 4 = now + 1 := by
 have htm := h.tm
 constructor
 ·intro hi
  have hil := h.lk.qc _ i hi
  obtain ⟨o1, o2⟩ := h.out _ i hi
  refine ⟨hil, ?_⟩
  have hd : now < gC T i 4 := by
   by_cases hc : now < gC T i 4
   ·exact hc
   ·unfold locI at o2
    rw [if_pos (by omega)] at o2
    omega
  obtain ⟨p1, p2, p3, p4⟩ := h.pl i hil hd
  obtain ⟨_, _, f3, f4⟩ := h.of hil hd
  unfold locI at o2
  rw [if_neg (by omega)] at o2
  have hl0 : gC T i 0 = 0 := by omega
  rw [hl0] at p2 p4 o2
  have p4' := p4 (by decide)
  rw [blk0] at p2
  rw [show (0 : Int) + 1 = 1 by decide, blk1, blk1] at p4'
  omega
 ·rintro ⟨hil, hd⟩
  obtain ⟨p1, p2, p3, p4⟩ := h.pl i hil (by omega)
  have hl0 : gC T i 0 = 0 := by
   by_cases hc : gC T i 0 = 0
   ·exact hc
   ·exfalso
    have q := p3 (by omega)
    rw [hd] at q
    rcases Md (lv := gC T i 0) (by omega) htm.1 with e | ⟨e1, e2⟩
    ·omega
    ·have hw := h.noWait e1 hil
     unfold Bn at hw
     rw [hd, e2] at hw
     have a1 : now < now + 1 := by omega
     have a2 : 1 <= gC T i 0 := by omega
     simp [a1, a2] at hw
  have hm := h.inn i hil (by omega)
  unfold locI at hm
  rw [if_neg (by omega), p2, hl0, blk0, hd] at hm
  have e : (0 * 512 + (now + 1) % 512).toNat = ((now + 1) % 512).toNat := by omega
  rwa [e] at hm
theorem WOK.join {now bu le : Int} {S T : RL} {Q : Nat -> List Nat} (h : WOK now bu le S T Q (bu * (255 - now % 256))) (hM : now < 1099511627776) {k : Nat} (hk : k = ((now + 1) % 512).toNat) :
 WOK (now + 1) bu le (if gC S k 2 = 0 then S else joinS S k) (if gC S k 2 = 0 then T else joinT T (gC S k 0) (gC S 2048 1)) (uQ (uQ Q 2048 (Q 2048 ++ Q k)) k []) (bu * (256 - (now + 1) % 256)) /\
  (if gC S k 2 = 0 then T else joinT T (gC S k 0) (gC S 2048 1)).length = T.length /\
  ∀ y j, j ≠ 2 -> j ≠ 3 -> gC (if gC S k 2 = 0 then T else joinT T (gC S k 0) (gC S 2048 1)) y j = gC T y j := by
 have htm := h.tm
 have hct := h.ct
 have hdue := h.due
 rw [<- hk] at hdue
 have hk8 : k < 512 := by omega
 obtain ⟨d0, d1, d2⟩ := h.lk.hd k (by omega)
 obtain ⟨b0, b1, b2⟩ := h.lk.hd 2048 (by omega)
 have bnd : ∀ m, (Q m).length <= T.length := fun m => Ec (h.lk.nd m) fun a ha => h.lk.qc _ a ha
 have main : Lk (if gC S k 2 = 0 then T else joinT T (gC S k 0) (gC S 2048 1)) (if gC S k 2 = 0 then S else joinS S k) (uQ (uQ Q 2048 (Q 2048 ++ Q k)) k []) T.length /\
  rowsOK k3 (if gC S k 2 = 0 then S else joinS S k) /\ rowsOK k5 (if gC S k 2 = 0 then T else joinT T (gC S k 0) (gC S 2048 1)) /\
  ∀ y j, j ≠ 2 -> j ≠ 3 -> gC (if gC S k 2 = 0 then T else joinT T (gC S k 0) (gC S 2048 1)) y j = gC T y j := by
  by_cases hc : gC S k 2 = 0
  ·have hq : Q k = [] := List.length_eq_zero_iff.1 (by omega)
   have hQ : uQ (uQ Q 2048 (Q 2048 ++ Q k)) k [] = Q := by
    funext m
    unfold uQ
    by_cases h1 : m = k
    ·rw [if_pos h1, h1, hq]
    ·rw [if_neg h1]
     by_cases h2 : m = 2048
     ·rw [if_pos h2, h2, hq, List.append_nil]
     ·rw [if_neg h2]
   simp only [if_pos hc, hQ]
   exact ⟨h.lk, h.rS, h.rT, fun _ _ _ _ => trivial⟩
  ·have hne : Q k ≠ [] := fun e => hc (by rw [d2, e]; rfl)
   simp only [if_neg hc]
   have f0 : 0 < gC S k 0 /\ gC S k 0 <= (T.length : Int) := by
    rw [d0]
    refine ⟨?_, FW fun a ha => h.lk.qc _ a ha⟩
    cases hq : Q k with
    | nil => exact absurd hq hne
    | cons a r => simp only [headP]; omega
   have f1 : 0 <= gC S k 1 /\ gC S k 1 <= (T.length : Int) := by rw [d1]; exact ⟨AW _, DA fun a ha => h.lk.qc _ a ha⟩
   have fb : 0 <= gC S 2048 1 /\ gC S 2048 1 <= (T.length : Int) := by rw [b1]; exact ⟨AW _, DA fun a ha => h.lk.qc _ a ha⟩
   have n1 := bnd k
   have n2 := bnd 2048
   exact ⟨h.lk.join (by omega) hne, SJ h.rS h.lk.sw (by omega) hct.2.1 (by omega) f1 (by omega) (by omega), SI h.rT h.lk.tw hct.2.1 f0 fb, (Rh h.lk.tw f0 fb).2⟩
 obtain ⟨S', eS⟩ : ∃ S', S' = if gC S k 2 = 0 then S else joinS S k := ⟨_, rfl⟩
 obtain ⟨T', eT⟩ : ∃ T', T' = if gC S k 2 = 0 then T else joinT T (gC S k 0) (gC S 2048 1) := ⟨_, rfl⟩
 rw [<- eS, <- eT] at main ⊢
 obtain ⟨m1, m2, m3, m4⟩ := main
 have hl : T'.length = T.length := m1.tw.1
 have g0 := fun y => m4 y 0 (by decide) (by decide)
 have g1 := fun y => m4 y 1 (by decide) (by decide)
 have g4 := fun y => m4 y 4 (by decide) (by decide)
 have hU : ∀ m, uQ (uQ Q 2048 (Q 2048 ++ Q k)) k [] m = if m = k then [] else if m = 2048 then Q 2048 ++ Q k else Q m := fun m => rfl
 have hloc : ∀ y, now + 1 < gC T y 4 -> locI (now + 1) T' y = locI now T y := fun y hd => by
  unfold locI; rw [g0, g1, g4, if_neg (by omega), if_neg (by omega)]
 have hloc2 : ∀ y, gC T y 4 <= now + 1 -> locI (now + 1) T' y = 2048 := fun y hd => by
  unfold locI; rw [g4, if_pos hd]
 refine ⟨⟨by omega, h.bg, by rw [hl]; exact hct, m2, m3, by rw [hl]; exact m1, fun y hyl hyd => ?_, fun m y hm => ?_, fun y hyl => ?_, fun y hyl hyd => ?_, ?_, ?_⟩, hl, m4⟩
 ·rw [hl] at hyl
  rw [g4] at hyd
  by_cases c1 : gC T y 4 <= now + 1
  ·rw [hloc2 y c1, show (2048 : Int).toNat = 2048 from rfl, hU, if_neg (by omega), if_pos rfl]
   by_cases c2 : gC T y 4 <= now
   ·have := h.inn y hyl hyd
    unfold locI at this
    rw [if_pos c2] at this
    exact List.mem_append_left _ this
   ·exact List.mem_append_right _ ((hdue y).2 ⟨hyl, by omega⟩)
  ·have h1 := h.inn y hyl hyd
   have hlt := h.loc_lt hyl (by omega)
   rw [hloc y (by omega), hU, if_neg (fun e => by rw [e] at h1; have := ((hdue y).1 h1).2; omega), if_neg (by omega)]
   exact h1
 ·rw [hU] at hm
  by_cases c1 : m = k
  ·rw [if_pos c1] at hm; cases hm
  ·rw [if_neg c1] at hm
   rw [g4]
   by_cases c2 : m = 2048
   ·rw [if_pos c2] at hm
    rcases List.mem_append.1 hm with h1 | h1
    ·obtain ⟨o1, o2⟩ := h.out _ y h1
     have hyl := h.lk.qc _ y h1
     have : gC T y 4 <= now := by
      by_cases hc : gC T y 4 <= now
      ·exact hc
      ·have := h.loc_lt hyl (by omega); omega
     rw [hloc2 y (by omega)]
     exact ⟨o1, by omega⟩
    ·obtain ⟨e1, e2⟩ := (hdue y).1 h1
     rw [hloc2 y (by omega)]
     exact ⟨by omega, by omega⟩
   ·rw [if_neg c2] at hm
    obtain ⟨o1, o2⟩ := h.out _ y hm
    have hyl := h.lk.qc _ y hm
    have c3 : now < gC T y 4 := by
     by_cases hc : gC T y 4 <= now
     ·unfold locI at o2
      rw [if_pos hc] at o2; omega
     ·omega
    have c4 : gC T y 4 ≠ now + 1 := fun e => c1 (h.lk.dj _ _ y hm ((hdue y).2 ⟨hyl, e⟩))
    rw [hloc y (by omega)]
    exact ⟨o1, o2⟩
 ·rw [hl] at hyl
  rw [g4]
  have := h.dr y hyl
  omega
 ·rw [hl] at hyl
  rw [g4] at hyd
  rw [g0, g1, g4]
  obtain ⟨p1, p2, p3, p4⟩ := h.pl y hyl (by omega)
  refine ⟨p1, p2, fun h1 => ?_, fun h3 => ?_⟩
  ·have q := p3 h1
   rcases Md (lv := gC T y 0) (by omega) htm.1 with e | ⟨e1, e2⟩
   ·omega
   ·have hw := h.noWait e1 hyl
    have hne : blk (gC T y 0) (gC T y 4) ≠ blk (gC T y 0) now + 1 := fun e => by
     unfold Bn at hw
     have a1 : now < gC T y 4 := by omega
     simp [a1, h1, e] at hw
    omega
  ·have q := p4 h3
   have := VJ (lv := gC T y 0 + 1) (now := now) (by omega) htm.1
   omega
 ·by_cases hb : now % 256 = 255
  ·have e : (now + 1) % 256 = 0 := by omega
   rw [e]
   have := Gt (Bn (now + 1) T') T'.length
   unfold cntW
   rw [hl] at this ⊢
   have h3 := hct.2.2
   rw [Int.mul_comm]
   show _ <= (256 - 0) * bu
   omega
  ·have e : (256 : Int) - (now + 1) % 256 = 255 - now % 256 := by omega
   rw [e]
   refine Int.le_trans ?_ h.wt
   unfold cntW
   rw [hl]
   refine Int.ofNat_le.2 (JB fun y hyl hw => ?_)
   unfold Bn at hw ⊢
   rw [g0, g4] at hw
   simp only [Bool.and_eq_true, decide_eq_true_eq] at hw ⊢
   obtain ⟨⟨w1, w2⟩, w3⟩ := hw
   obtain ⟨p1, _⟩ := h.pl y hyl (by omega)
   rcases Md (lv := gC T y 0) (by omega) htm.1 with e | ⟨e1, e2⟩
   ·rw [e] at w3
    exact ⟨⟨by omega, w2⟩, w3⟩
   ·exact absurd e1 hb
 ·rw [h.ln]
  unfold cntD
  rw [hl]
  congr 1
  exact HV fun y _ => by rw [g4]
theorem Gu {now : Int} {T : RL} {i : Nat} : Bn now T i = true ↔ now < gC T i 4 /\ 1 <= gC T i 0 /\ blk (gC T i 0) (gC T i 4) = blk (gC T i 0) now + 1 := by
 unfold Bn; simp only [Bool.and_eq_true, decide_eq_true_eq]; exact ⟨fun h => ⟨h.1.1, h.1.2, h.2⟩, fun h => ⟨⟨h.1, h.2.1⟩, h.2.2⟩⟩
theorem WOK.in_wait {now bu le w : Int} {S T : RL} {Q : Nat -> List Nat} (h : WOK now bu le S T Q w) {k : Int} (hk : 1 <= k /\ k <= 3) {i : Nat} (hi : i ∈ Q (wK k now)) : i < T.length /\ Bn now T i = true := by
 have htm := h.tm
 have hil := h.lk.qc _ i hi
 obtain ⟨o1, o2⟩ := h.out _ i hi
 have hd : now < gC T i 4 := by
  by_cases hc : now < gC T i 4
  ·exact hc
  ·unfold locI wK at o2
   rw [if_pos (by omega)] at o2
   omega
 have hdr := h.dr i hil
 obtain ⟨p1, p2, p3, p4⟩ := h.pl i hil hd
 obtain ⟨_, _, f3, f4⟩ := h.of hil hd
 unfold locI wK at o2
 rw [if_neg (by omega)] at o2
 have hl0 : gC T i 0 = k := by omega
 refine ⟨hil, Gu.2 ⟨hd, by omega, ?_⟩⟩
 rw [hl0] at p2 p3 p4 o2 ⊢
 have q3 := p3 hk.1
 have : k = 1 \/ k = 2 \/ k = 3 := by omega
 rcases this with e | e | e <;> subst e
 ·have q4 := p4 (by decide)
  rw [show (1 : Int) + 1 = 2 by decide, blk2, blk2] at q4
  simp only [blk1] at *
  omega
 ·have q4 := p4 (by decide)
  rw [show (2 : Int) + 1 = 3 by decide, blk3, blk3] at q4
  simp only [blk2] at *
  omega
 ·simp only [blk3] at *
  omega
theorem WOK.wait_in {now bu le w : Int} {S T : RL} {Q : Nat -> List Nat} (h : WOK now bu le S T Q w) {i : Nat} (hi : i < T.length) (hw : Bn now T i = true) : ∃ k : Int, (1 <= k /\ k <= 3) /\ i ∈ Q (wK k now) := by
 obtain ⟨w1, w2, w3⟩ := Gu.1 hw
 have htm := h.tm
 obtain ⟨p1, p2, _, _⟩ := h.pl i hi w1
 have hm := h.inn i hi (by omega)
 refine ⟨gC T i 0, ⟨w2, p1.2⟩, ?_⟩
 unfold locI at hm
 rw [if_neg (by omega), p2, w3] at hm
 exact hm
theorem WOK.wt_cnt {now bu le w : Int} {S T : RL} {Q : Nat -> List Nat} (h : WOK now bu le S T Q w) {k : Int} (hk : 1 <= k /\ k <= 3) : (gC S (wK k now) 2 = ((Q (wK k now)).length : Int)) /\ gC S (wK k now) 0 = headP (Q (wK k now)) := by
 have hlt : wK k now < 2048 := wK_lt (by omega) hk.2
 obtain ⟨a0, _, a2⟩ := h.lk.hd (wK k now) (by omega)
 exact ⟨a2, a0⟩
theorem WOK.wait_pos {now bu le w : Int} {S T : RL} {Q : Nat -> List Nat} (h : WOK now bu le S T Q w) (hw : wtF S now ≠ 0) : ∃ i : Nat, wtF S now = (i : Int) + 1 /\ i < T.length /\ Bn now T i = true := by
 have key : ∀ k : Int, 1 <= k /\ k <= 3 -> 0 < gC S (wK k now) 2 -> ∃ i : Nat, gC S (wK k now) 0 = (i : Int) + 1 /\ i < T.length /\ Bn now T i = true := fun k hk hc => by
  obtain ⟨e1, e2⟩ := h.wt_cnt hk
  cases hq : Q (wK k now) with
  | nil => rw [e1, hq] at hc; exact absurd hc (by decide)
  | cons i r =>
    obtain ⟨g1, g2⟩ := h.in_wait hk (i := i) (by rw [hq]; simp)
    exact ⟨i, by rw [e2, hq]; rfl, g1, g2⟩
 unfold wtF at hw ⊢
 by_cases c1 : 0 < gC S (wK 1 now) 2
 ·rw [if_pos c1]; exact key 1 (by decide) c1
 ·rw [if_neg c1] at hw ⊢
  by_cases c2 : 0 < gC S (wK 2 now) 2
  ·rw [if_pos c2]; exact key 2 (by decide) c2
  ·rw [if_neg c2] at hw ⊢
   by_cases c3 : 0 < gC S (wK 3 now) 2
   ·rw [if_pos c3]; exact key 3 (by decide) c3
   ·rw [if_neg c3] at hw; exact absurd rfl hw
theorem WOK.wait_zero {now bu le w : Int} {S T : RL} {Q : Nat -> List Nat} (h : WOK now bu le S T Q w) (hw : wtF S now = 0) : cntW now T = 0 := by
 refine Mc fun i hi => ?_
 cases hc : Bn now T i
 ·rfl
 ·exfalso
  obtain ⟨k, hk, hm⟩ := h.wait_in hi hc
  have pos : ∀ k : Int, 1 <= k /\ k <= 3 -> 0 < gC S (wK k now) 2 -> 0 < gC S (wK k now) 0 := fun k hk hc => by
   obtain ⟨e1, e2⟩ := h.wt_cnt hk
   cases hq : Q (wK k now) with
   | nil => rw [e1, hq] at hc; exact absurd hc (by decide)
   | cons i r => rw [e2, hq]; simp only [headP]; omega
  have hpos : 0 < gC S (wK k now) 2 := by
   rw [(h.wt_cnt hk).1]
   have := List.length_pos_of_mem hm
   omega
  unfold wtF at hw
  by_cases c1 : 0 < gC S (wK 1 now) 2
  ·rw [if_pos c1] at hw; have := pos 1 (by decide) c1; omega
  ·rw [if_neg c1] at hw
   by_cases c2 : 0 < gC S (wK 2 now) 2
   ·rw [if_pos c2] at hw; have := pos 2 (by decide) c2; omega
   ·rw [if_neg c2] at hw
    by_cases c3 : 0 < gC S (wK 3 now) 2
    ·rw [if_pos c3] at hw; have := pos 3 (by decide) c3; omega
    ·have : k = 1 \/ k = 2 \/ k = 3 := by omega
     rcases this with e | e | e <;> subst e <;> omega
def mvW (now : Int) (p : RL × RL) : RL × RL :=
 let i := (wtF p.1 now - 1).toNat
 let d := gC p.2 i 4
 let S1 := dropS p.1 (locI now p.2 i).toNat (gC p.2 i 2) (gC p.2 i 3)
 (putS S1 (kW now d).toNat i, putT (dropT p.2 i) i (lvF now d) (blk (lvF now d) d % 512) d (gC S1 (kW now d).toNat 1))
theorem VK {now d lv : Int} (h : 1 <= lv /\ lv <= 3) (hb : blk lv d = blk lv now + 1) : lvF now d < lv := by
 unfold lvF
 have : lv = 1 \/ lv = 2 \/ lv = 3 := by omega
 rcases this with e | e | e <;> subst e
 ·rw [if_pos (by omega)]; decide
 ·split
  ·decide
  ·rw [if_pos (by omega)]; decide
 ·split
  ·decide
  ·split
   ·decide
   ·rw [if_pos (by omega)]; decide
theorem WOK.move {now bu le w : Int} {S T : RL} {Q : Nat -> List Nat} (h : WOK now bu le S T Q w) {i : Nat} (hwt : wtF S now = (i : Int) + 1) (hi : i < T.length) (hw : Bn now T i = true) :
 ∃ Q', WOK now bu le (mvW now (S, T)).1 (mvW now (S, T)).2 Q' (w - 1) /\ (mvW now (S, T)).2.length = T.length /\ (∀ y, gC (mvW now (S, T)).2 y 4 = gC T y 4) /\ (∀ y, y ≠ i -> gC (mvW now (S, T)).2 y 0 = gC T y 0) /\ gC (mvW now (S, T)).2 i 0 < gC T i 0 /\ 0 <= gC (mvW now (S, T)).2 i 0 /\ Q' 2048 = Q 2048 := by
 obtain ⟨w1, w2, w3⟩ := Gu.1 hw
 have htm := h.tm
 obtain ⟨p1, _, _, _⟩ := h.pl i hi w1
 have hdr := h.dr i hi
 obtain ⟨A, B, hq, k1, k2, k3, k4⟩ := h.drop hi (by omega)
 obtain ⟨S1, eS⟩ : ∃ S1, S1 = dropS S (locI now T i).toNat (gC T i 2) (gC T i 3) := ⟨_, rfl⟩
 obtain ⟨T1, eT⟩ : ∃ T1, T1 = dropT T i := ⟨_, rfl⟩
 obtain ⟨d, ed⟩ : ∃ d, d = gC T i 4 := ⟨_, rfl⟩
 have em : mvW now (S, T) = (putS S1 (kW now d).toNat i, putT T1 i (lvF now d) (blk (lvF now d) d % 512) d (gC S1 (kW now d).toNat 1)) := by
  unfold mvW
  simp only [hwt, show ((i : Int) + 1 - 1).toNat = i by omega]
  rw [<- eS, <- eT, <- ed]
 rw [em]
 rw [<- eS, <- eT] at k1
 rw [<- eT] at k2 k3 k4
 have hlt : (locI now T i).toNat < 2048 := h.loc_lt hi w1
 have hc1 : (cntW now T1 : Int) <= w - 1 := by
  have hu := Lp (p := Bn now T) (q := Bn now T1) hi fun y _ he => by
   obtain ⟨e0, e1, e4⟩ := k3 y he
   unfold Bn; rw [e0, e4]
  have hz : Bn now T1 i = false := by
   cases hz : Bn now T1 i
   ·rfl
   ·have := (Gu.1 hz).1; rw [k4] at this; omega
  rw [hw, hz] at hu
  have := h.wt
  unfold cntW at this ⊢
  rw [k2, hu]
  simp; omega
 have k1' : WOK now bu (le - 1) S1 T1 (uQ Q (locI now T i).toNat (A ++ B)) (w - 1) := { k1 with wt := hc1 }
 obtain ⟨m1, m2, m3, m4, m5, m6⟩ := k1'.put (d := d) (by rw [k2]; exact hi) k4 (by omega)
 have hK : (kW now d).toNat < 2048 := by
  have hb := Cc (lvF now d) (t := d) (by omega)
  have := IE now d
  unfold kW; rw [if_neg (by omega)]; omega
 refine ⟨_, by rw [show le = le - 1 + 1 by omega]; exact m1, by rw [m2, k2], fun y => ?_, fun y hy => ?_, ?_, ?_, ?_⟩
 ·by_cases he : y = i
  ·subst he; rw [m6, ed]
  ·rw [(m3 y he).2.2, (k3 y he).2.2]
 ·rw [(m3 y hy).1, (k3 y hy).1]
 ·rw [m4, ed]; exact VK ⟨w2, p1.2⟩ w3
 ·rw [m4]; exact (IE now d).1
 ·rw [BR _ _ (by omega), BR _ _ (by omega)]
def mvN (now : Int) : Nat -> RL × RL -> (RL × RL) × Int
 | 0, p => (p, 0)
 | n + 1, p => if wtF p.1 now = 0 then (p, 0) else ((mvN now n (mvW now p)).1, (mvN now n (mvW now p)).2 + 1)
def lvSum (T : RL) : Nat -> Int
 | 0 => 0
 | n + 1 => lvSum T n + gC T n 0
theorem KK {T T' : RL} {i : Nat} : ∀ {n : Nat}, i < n -> (∀ y, y ≠ i -> gC T' y 0 = gC T y 0) -> lvSum T' n = lvSum T n - gC T i 0 + gC T' i 0
 | n + 1, hi, h => by
   have hc : ∀ m, m <= i -> lvSum T' m = lvSum T m := fun m hm => by
    induction m with
    | zero => rfl
    | succ m ih => simp only [lvSum]; rw [ih (by omega), h m (by omega)]
   simp only [lvSum]
   by_cases hn : i = n
   ·subst hn; rw [hc i (Nat.le_refl _)]; omega
   ·rw [KK (n := n) (by omega) h, h n (fun e => hn e.symm)]; omega
theorem LP {T T' : RL} (h : ∀ y, gC T' y 0 = gC T y 0) : ∀ n, lvSum T' n = lvSum T n
 | 0 => rfl
 | n + 1 => by simp only [lvSum]; rw [LP h n, h n]
theorem UV {now bu le : Int} : ∀ (n : Nat) (p : RL × RL) (Q : Nat -> List Nat) (w : Int), WOK now bu le p.1 p.2 Q w ->
 ∃ Q', WOK now bu le (mvN now n p).1.1 (mvN now n p).1.2 Q' (if (n : Int) <= w then w - n else 0) /\ 0 <= (mvN now n p).2 /\ (mvN now n p).2 <= n /\ (mvN now n p).1.2.length = p.2.length /\ (∀ y, gC (mvN now n p).1.2 y 4 = gC p.2 y 4) /\
   lvSum (mvN now n p).1.2 p.2.length + (mvN now n p).2 <= lvSum p.2 p.2.length /\ Q' 2048 = Q 2048
 | 0, p, Q, w, h => by
   have h0 := h.wt
   have e : (if ((0 : Nat) : Int) <= w then w - ((0 : Nat) : Int) else 0) = w := by rw [if_pos (by omega)]; omega
   exact ⟨Q, by rw [e]; exact h, by show (0 : Int) <= 0; omega, by show (0 : Int) <= ((0 : Nat) : Int); omega, rfl, fun _ => rfl, by show lvSum p.2 _ + 0 <= _; omega, rfl⟩
 | n + 1, p, Q, w, h => by
   by_cases hz : wtF p.1 now = 0
   ·have hc := h.wait_zero hz
    have e : mvN now (n + 1) p = (p, 0) := if_pos hz
    rw [e]
    have h0 := h.wt
    refine ⟨Q, { h with wt := by rw [hc]; split <;> omega }, by show (0 : Int) <= 0; omega, by show (0 : Int) <= ((n + 1 : Nat) : Int); omega, rfl, fun _ => rfl, by show lvSum p.2 _ + 0 <= _; omega, rfl⟩
   ·obtain ⟨i, hi1, hi2, hi3⟩ := h.wait_pos hz
    obtain ⟨Q1, m1, m2, m3, m4, m5, m6, m7⟩ := h.move hi1 hi2 hi3
    have hw1 : 1 <= w := by
     have := Lo hi2 hi3
     have h0 := h.wt
     unfold cntW at h0; omega
    obtain ⟨Q2, r1, r2, r3, r4, r5, r6, r7⟩ := UV n (mvW now (p.1, p.2)) Q1 (w - 1) m1
    have e : mvN now (n + 1) p = ((mvN now n (mvW now p)).1, (mvN now n (mvW now p)).2 + 1) := if_neg hz
    rw [e]
    have hs := KK (T := p.2) (T' := (mvW now (p.1, p.2)).2) hi2 m4
    rw [m2] at r6
    have ew : (if ((n + 1 : Nat) : Int) <= w then w - ((n + 1 : Nat) : Int) else 0) = if (n : Int) <= w - 1 then w - 1 - n else 0 := by
     by_cases c : (n : Int) <= w - 1
     ·rw [if_pos c, if_pos (by omega)]; omega
     ·rw [if_neg c, if_neg (by omega)]
    refine ⟨Q2, by rw [ew]; exact r1, by show 0 <= (mvN now n (mvW now p)).2 + 1; exact Int.le_add_one r2, ?_, by rw [<- m2]; exact r4, fun y => (r5 y).trans (m3 y), ?_, r7.trans m7⟩
    ·have : (mvN now n (mvW now p)).2 <= n := r3
     show (mvN now n (mvW now p)).2 + 1 <= ((n + 1 : Nat) : Int)
     omega
    ·have : lvSum (mvN now n (mvW now p)).1.2 p.2.length + (mvN now n (mvW now p)).2 <= lvSum (mvW now p).2 p.2.length := r6
     have hs' : lvSum (mvW now p).2 p.2.length = lvSum p.2 p.2.length - gC p.2 i 0 + gC (mvW now p).2 i 0 := hs
     have m5' : gC (mvW now p).2 i 0 < gC p.2 i 0 := m5
     show lvSum (mvN now n (mvW now p)).1.2 p.2.length + ((mvN now n (mvW now p)).2 + 1) <= _
     omega
def DB (k : Nat) (p : RL × RL) : RL × RL := if gC p.1 k 2 = 0 then p else (joinS p.1 k, joinT p.2 (gC p.1 k 0) (gC p.1 2048 1))
def tickW (now bu : Int) (p : RL × RL) : (RL × RL) × Int := if now = 1099511627776 then (p, 0) else mvN (now + 1) bu.toNat (DB ((now + 1) % 512).toNat p)
def nowT (now : Int) : Int := if now = 1099511627776 then now else now + 1
theorem WOK.tick {now bu le : Int} {S T : RL} {Q : Nat -> List Nat} (h : WOK now bu le S T Q (bu * (255 - now % 256))) :
 ∃ Q', WOK (nowT now) bu le (tickW now bu (S, T)).1.1 (tickW now bu (S, T)).1.2 Q' (bu * (255 - nowT now % 256)) /\ 0 <= (tickW now bu (S, T)).2 /\ (tickW now bu (S, T)).2 <= bu /\ (tickW now bu (S, T)).1.2.length = T.length /\
   (∀ y, gC (tickW now bu (S, T)).1.2 y 4 = gC T y 4) /\ lvSum (tickW now bu (S, T)).1.2 T.length + (tickW now bu (S, T)).2 <= lvSum T T.length /\
   Q' 2048 = Q 2048 ++ (if now = 1099511627776 then [] else Q ((now + 1) % 512).toNat) := by
 have hb := h.bg
 have htm := h.tm
 by_cases hM : now = 1099511627776
 ·have e1 : tickW now bu (S, T) = ((S, T), 0) := if_pos hM
  have e2 : nowT now = now := if_pos hM
  rw [e1, e2, if_pos hM, List.append_nil]
  exact ⟨Q, h, by show (0 : Int) <= 0; omega, by show (0 : Int) <= bu; omega, rfl, fun _ => rfl, by show lvSum T _ + 0 <= _; omega, rfl⟩
 ·have e2 : nowT now = now + 1 := if_neg hM
  obtain ⟨k, hk⟩ : ∃ k, k = ((now + 1) % 512).toNat := ⟨_, rfl⟩
  obtain ⟨j1, j2, j3⟩ := h.join (by omega) hk
  have ej : DB k (S, T) = (if gC S k 2 = 0 then S else joinS S k, if gC S k 2 = 0 then T else joinT T (gC S k 0) (gC S 2048 1)) := by
   unfold DB
   by_cases hc : gC S k 2 = 0 <;> simp [hc]
  have e1 : tickW now bu (S, T) = mvN (now + 1) bu.toNat (DB k (S, T)) := by rw [hk]; exact if_neg hM
  rw [e1, e2, if_neg hM, <- hk]
  have j1' : WOK (now + 1) bu le (DB k (S, T)).1 (DB k (S, T)).2 (uQ (uQ Q 2048 (Q 2048 ++ Q k)) k []) (bu * (256 - (now + 1) % 256)) := by rw [ej]; exact j1
  have j2' : (DB k (S, T)).2.length = T.length := by rw [ej]; exact j2
  have j3' : ∀ y j, j ≠ 2 -> j ≠ 3 -> gC (DB k (S, T)).2 y j = gC T y j := by rw [ej]; exact j3
  obtain ⟨Q', r1, r2, r3, r4, r5, r6, r7⟩ := UV bu.toNat (DB k (S, T)) _ _ j1'
  have hle : bu <= bu * (256 - (now + 1) % 256) := by
   have : bu * 1 <= bu * (256 - (now + 1) % 256) := Int.mul_le_mul_of_nonneg_left (by omega) (by omega)
   omega
  have ew : (if ((bu.toNat : Nat) : Int) <= bu * (256 - (now + 1) % 256) then bu * (256 - (now + 1) % 256) - ((bu.toNat : Nat) : Int) else 0) = bu * (255 - (now + 1) % 256) := by
   rw [if_pos (by omega), show ((bu.toNat : Nat) : Int) = bu by omega, show (256 : Int) - (now + 1) % 256 = (255 - (now + 1) % 256) + 1 by omega, Int.mul_add, Int.mul_one]
   omega
  rw [ew] at r1
  rw [j2'] at r4 r6
  rw [LP (T := T) (T' := (DB k (S, T)).2) (fun y => j3' y 0 (by decide) (by decide))] at r6
  refine ⟨Q', r1, r2, by omega, r4, fun y => (r5 y).trans (j3' y 4 (by decide) (by decide)), r6, ?_⟩
  rw [r7, BR _ _ (by omega), Bp]
def intK : List K := [.i .i64]
def lio : Sh := .lst 3 (Row.ofKs intK) true
def SW (xs : List Int) : RL := dc (env xs 0)
def TW (xs : List Int) : RL := dc (env xs 5)
def WX (xs : List Int) : Prop := (∃ Q, WOK (env xs 1) (env xs 2) (env xs 3) (SW xs) (TW xs) Q (env xs 2 * (255 - env xs 1 % 256))) /\ 0 <= env xs 4 /\ env xs 4 <= 1152921504606846976
def lenOK (xs : List Int) : Prop := 0 < lenT xs /\ lenT xs <= 4096
def e18 : Ent := ⟨18, 35, [wsh], [], [0, 1], i64, fun _ xs => env xs 1, lenOK⟩
def e16 : Ent := ⟨16, 46, [wsh], [], [0, 1], i64, fun _ xs => gC (SW xs) 2048 2, fun xs => lenOK xs /\ rowsOK k3 (SW xs) /\ (SW xs).length = 2049⟩
abbrev riW (xs : List Int) : Prop := 0 <= env xs 6 /\ env xs 6 < lenT xs
def fn29 (j : Nat) (xs : List Int) : Int := match j with
 | 0 => if riW xs then gC (TW xs) (idW xs) 4 else 0
 | _ => b2i (decide (riW xs) && decide (gC (TW xs) (idW xs) 4 ≠ 0))
def preR (xs : List Int) : Prop := lenOK xs /\ rowsOK k5 (TW xs)
def e29 : Ent := ⟨29, 37, [wsh, i64], [], [0, 1], .tup [i64, bS], fn29, preR⟩
def dpW (now : Int) (p : RL × RL) (i : Nat) : RL × RL := (dropS p.1 (locI now p.2 i).toNat (gC p.2 i 2) (gC p.2 i 3), dropT p.2 i)
def ptW (now d : Int) (p : RL × RL) (i : Nat) : RL × RL := (putS p.1 (kW now d).toNat i, putT p.2 i (lvF now d) (blk (lvF now d) d % 512) d (gC p.1 (kW now d).toNat 1))
def clW (now : Int) (p : RL × RL) (i : Nat) : RL × RL := if 0 < gC p.2 i 4 then dpW now p i else p
def armW (now d : Int) (p : RL × RL) (i : Nat) : RL × RL := ptW now d (clW now p i) i
abbrev okA (xs : List Int) : Prop := riW xs /\ env xs 1 < env xs 7 /\ env xs 7 <= env xs 1 + 2147483648
def fn14 (j : Nat) (xs : List Int) : Int := match j with
 | 0 => if okA xs then cd (armW (env xs 1) (env xs 7) (SW xs, TW xs) (idW xs)).1 else env xs 0
 | 1 => env xs 1
 | 2 => env xs 2
 | 3 => if okA xs then (if 0 < gC (TW xs) (idW xs) 4 then env xs 3 else env xs 3 + 1) else env xs 3
 | 4 => env xs 4
 | 5 => if okA xs then cd (armW (env xs 1) (env xs 7) (SW xs, TW xs) (idW xs)).2 else env xs 5
 | _ => if okA xs then 0 else 2
def e14 : Ent := ⟨14, 38, [wsh, i64, i64], [wob], [], i64, fn14, WX⟩
def fn24 (j : Nat) (xs : List Int) : Int := match j with
 | 0 => if riW xs /\ gC (TW xs) (idW xs) 4 ≠ 0 then cd (dpW (env xs 1) (SW xs, TW xs) (idW xs)).1 else env xs 0
 | 1 => env xs 1
 | 2 => env xs 2
 | 3 => if riW xs /\ gC (TW xs) (idW xs) 4 ≠ 0 then env xs 3 - 1 else env xs 3
 | 4 => env xs 4
 | 5 => if riW xs /\ gC (TW xs) (idW xs) 4 ≠ 0 then cd (dpW (env xs 1) (SW xs, TW xs) (idW xs)).2 else env xs 5
 | _ => if riW xs then (if gC (TW xs) (idW xs) 4 = 0 then 6 else 0) else 2
def e24 : Ent := ⟨24, 42, [wsh, i64], [wob], [], i64, fn24, WX⟩
def cF : Ctx := ⟨[e46, e47, e48, e49], []⟩
def SK : E := (.app .b 46 1000000 [(vX 0), (vI 1), (vI 2), (vI 3), (vI 4), (vX 5)])
def V3 : List E := [(vI 1)]
theorem ev_18 : evE Try.prog G0 (Af cF.fs) (ltOf cF.ls) 40 10 e18 = some (SK, V3) := by kernel_rfl
def Lq : E := (.and (.app .b 46 1000000 [(vX 0), (vI 1), (vI 2), (vI 3), (vI 4), (vX 5)]) (.cmp .lss (lI 2048) (aI 0 0 [(vX 0)])))
def GW : List E := [(aI 0 1 [(vX 0), (lI 2048), (.lit .x 2)])]
theorem SL : evE Try.prog G0 (Af cF.fs) (ltOf cF.ls) 40 10 e16 = some (Lq, GW) := by kernel_rfl
def Nq : E := (.not (.app .b 47 0 [(vX 0), (vI 1), (vI 2), (vI 3), (vI 4), (vX 5), (vI 6)]))
def Nr : E := (.and (.cmp .geq (vI 6) (lI 0)) (.cmp .lss (vI 6) (aI 0 0 [(vX 5)])))
def KL : E := (.or Nq (.cmp .eql (aI 0 1 [(vX 5), (vI 6), (.lit .x 4)]) (lI 0)))
def Ph : E := (.and (.and (.app .b 46 1000000 [(vX 0), (vI 1), (vI 2), (vI 3), (vI 4), (vX 5)]) (.and (.app .b 47 1000000 [(vX 0), (vI 1), (vI 2), (vI 3), (vI 4), (vX 5), (vI 6)]) (.or Nq Nr))) (.or KL Nr))
def SM : List E := [(.ite KL (lI 0) (aI 0 1 [(vX 5), (vI 6), (.lit .x 4)])), (.not KL)]
theorem ev_29 : evE Try.prog G0 (Af cF.fs) (ltOf cF.ls) 40 10 e29 = some (Ph, SM) := by kernel_rfl
def Ck : E := (.or (.or (.not (.app .b 47 0 [(vX 0), (vI 1), (vI 2), (vI 3), (vI 4), (vX 5), (vI 6)])) (.cmp .leq (vI 7) (vI 1))) (.cmp .gtr (vI 7) (.bin .add .i64 (vI 1) (lI 2147483648))))
def C3 : E := (.cmp .gtr (aI 0 1 [(vX 5), (vI 6), (.lit .x 4)]) (lI 0))
def IG : E := (.not C3)
def Ee : E := (.ite C3 (aX 48 0 [(vX 0), (vI 1), (vI 2), (vI 3), (vI 4), (vX 5), (vI 6)]) (vX 0))
def Ef : E := (.ite C3 (aI 48 1 [(vX 0), (vI 1), (vI 2), (vI 3), (vI 4), (vX 5), (vI 6)]) (vI 1))
def Eg : E := (.ite C3 (aI 48 2 [(vX 0), (vI 1), (vI 2), (vI 3), (vI 4), (vX 5), (vI 6)]) (vI 2))
def Eh : E := (.ite C3 (aI 48 3 [(vX 0), (vI 1), (vI 2), (vI 3), (vI 4), (vX 5), (vI 6)]) (vI 3))
def Ei : E := (.ite C3 (aI 48 4 [(vX 0), (vI 1), (vI 2), (vI 3), (vI 4), (vX 5), (vI 6)]) (vI 4))
def Ej : E := (.ite C3 (aX 48 5 [(vX 0), (vI 1), (vI 2), (vI 3), (vI 4), (vX 5), (vI 6)]) (vX 5))
def Lr : E := (.and (.and (.and (.app .b 46 1000000 [(vX 0), (vI 1), (vI 2), (vI 3), (vI 4), (vX 5)]) (.app .b 47 1000000 [(vX 0), (vI 1), (vI 2), (vI 3), (vI 4), (vX 5), (vI 6)])) (.or Ck (.and (.and (.and (.cmp .geq (vI 6) (lI 0)) (.cmp .lss (vI 6) (aI 0 0 [(vX 5)]))) (.or IG (.app .b 48 1000000 [(vX 0), (vI 1), (vI 2), (vI 3), (vI 4), (vX 5), (vI 6)]))) (.and (.ite C3 C3 IG) (.app .b 49 1000000 [Ee, Ef, Eg, Eh, Ei, Ej, (vI 6), (vI 7)]))))) (.ite Ck Ck (.not Ck)))
def Ns : List E := [(.ite Ck (vX 0) (aX 49 0 [Ee, Ef, Eg, Eh, Ei, Ej, (vI 6), (vI 7)])), (.ite Ck (vI 1) (aI 49 1 [Ee, Ef, Eg, Eh, Ei, Ej, (vI 6), (vI 7)])), (.ite Ck (vI 2) (aI 49 2 [Ee, Ef, Eg, Eh, Ei, Ej, (vI 6), (vI 7)])), (.ite Ck (vI 3) (aI 49 3 [Ee, Ef, Eg, Eh, Ei, Ej, (vI 6), (vI 7)])), (.ite Ck (vI 4) (aI 49 4 [Ee, Ef, Eg, Eh, Ei, Ej, (vI 6), (vI 7)])), (.ite Ck (vX 5) (aX 49 5 [Ee, Ef, Eg, Eh, Ei, Ej, (vI 6), (vI 7)])), (.ite Ck (lI 2) (lI 0))]
theorem ev_14 : evE Try.prog G0 (Af cF.fs) (ltOf cF.ls) 40 10 e14 = some (Lr, Ns) := by kernel_rfl
def AJ : E := (.app .b 47 0 [(vX 0), (vI 1), (vI 2), (vI 3), (vI 4), (vX 5), (vI 6)])
def A1 : E := (.not AJ)
def Bq : E := (.cmp .eql (aI 0 1 [(vX 5), (vI 6), (.lit .x 4)]) (lI 0))
def AK : E := (.or A1 Bq)
def Gk : E := (.and (.and (.and (.app .b 46 1000000 [(vX 0), (vI 1), (vI 2), (vI 3), (vI 4), (vX 5)]) (.and (.app .b 47 1000000 [(vX 0), (vI 1), (vI 2), (vI 3), (vI 4), (vX 5), (vI 6)]) (.or A1 (.and (.cmp .geq (vI 6) (lI 0)) (.cmp .lss (vI 6) (aI 0 0 [(vX 5)])))))) (.or (.not (.and AJ (.not Bq))) (.app .b 48 1000000 [(vX 0), (vI 1), (vI 2), (vI 3), (vI 4), (vX 5), (vI 6)]))) (.ite AK AK (.not AK)))
def CY : List E := [(.ite AK (vX 0) (aX 48 0 [(vX 0), (vI 1), (vI 2), (vI 3), (vI 4), (vX 5), (vI 6)])), (.ite AK (vI 1) (aI 48 1 [(vX 0), (vI 1), (vI 2), (vI 3), (vI 4), (vX 5), (vI 6)])), (.ite AK (vI 2) (aI 48 2 [(vX 0), (vI 1), (vI 2), (vI 3), (vI 4), (vX 5), (vI 6)])), (.ite AK (vI 3) (aI 48 3 [(vX 0), (vI 1), (vI 2), (vI 3), (vI 4), (vX 5), (vI 6)])), (.ite AK (vI 4) (aI 48 4 [(vX 0), (vI 1), (vI 2), (vI 3), (vI 4), (vX 5), (vI 6)])), (.ite AK (vX 5) (aX 48 5 [(vX 0), (vI 1), (vI 2), (vI 3), (vI 4), (vX 5), (vI 6)])), (.ite AK (.ite A1 (lI 2) (lI 6)) (lI 0))]
theorem SN : evE Try.prog G0 (Af cF.fs) (ltOf cF.ls) 40 10 e24 = some (Gk, CY) := by kernel_rfl
theorem cFok : cF.OK Try.prog G0 := (((Ctx.OK.nil.addF ok49 rfl).addF ok48 rfl).addF ok47 rfl).addF ok46 rfl
theorem y46 {S now bu le mo T : Int} (h : 0 < ((dc T).length : Int) /\ ((dc T).length : Int) <= 4096) : e46.pre [S, now, bu, le, mo, T] := h
theorem y47 {S now bu le mo T i : Int} (h : 0 < ((dc T).length : Int) /\ ((dc T).length : Int) <= 4096) : e47.pre [S, now, bu, le, mo, T, i] := h
theorem ok18 : EntryOK Try.prog G0 e18 := cFok.entryP mixed ev_18 _ rfl _ rfl fun xs hf hp => by
 obtain ⟨l, hl, hF⟩ := AN (l0 := cF.l)
 show SK.tt cF.l.F _ = true /\ Aq e18.fn _ cF.l.F _ _ _ _
 rw [hl]
 have F46 := FC (k := 46) rfl (hF e46 (by rfl) (by decide))
 have hSS := F46
 obtain ⟨S, now, bu, le, mo, T, rfl⟩ := No hf
 obtain ⟨h0, h1, h2, h3, h4, h5, _⟩ := hf
 simp only [Ad, A0] at h1 h2 h3 h4
 refine ⟨?_, ?_, trivial⟩
 ·simp (disch := omega) only [SK, ewA, ewL, preC, binI, dvI, shI, cmpB, env, bi, List.headD, List.tail, List.map, Nat.reduceAdd, ewB, ewM, if_true, if_false, implies_true, forall_const, ne_eq, reduceCtorEq, Int.reduceEq, Int.reduceLT, Int.reduceLE, Int.reduceToNat, Int.reduceAdd, Int.reduceSub, Int.reduceMul, Int.reduceNeg, Int.reduceBEq, Nat.reduceLT, Nat.reduceEqDiff, hSS, h1, h2, h3, h4]
  exact y46 hp
 ·simp (disch := omega) only [V3, e18, ewA, ewL, preC, binI, dvI, shI, cmpB, env, bi, List.headD, List.tail, List.map, Nat.reduceAdd, ewB, ewM, if_true, if_false, implies_true, forall_const, ne_eq, reduceCtorEq, Int.reduceEq, Int.reduceLT, Int.reduceLE, Int.reduceToNat, Int.reduceAdd, Int.reduceSub, Int.reduceMul, Int.reduceNeg, Int.reduceBEq, Nat.reduceLT, Nat.reduceEqDiff, hSS, h1, h2, h3, h4]
theorem ok16 : EntryOK Try.prog G0 e16 := cFok.entryP mixed SL _ rfl _ rfl fun xs hf hp => by
 obtain ⟨l, hl, hF⟩ := AN (l0 := cF.l)
 show Lq.tt cF.l.F _ = true /\ Aq e16.fn _ cF.l.F _ _ _ _
 rw [hl]
 have F46 := FC (k := 46) rfl (hF e46 (by rfl) (by decide))
 have hSS := F46
 obtain ⟨S, now, bu, le, mo, T, rfl⟩ := No hf
 obtain ⟨h0, h1, h2, h3, h4, h5, _⟩ := hf
 simp only [Ad, A0] at h1 h2 h3 h4
 obtain ⟨p1, p2, p3⟩ := hp
 simp only [SW, ewA, ewL, preC, binI, dvI, shI, cmpB, env, bi, List.headD, List.tail, List.map, Nat.reduceAdd] at p2 p3
 have c2 := DX p2 (i := 2048) (j := 2) (by omega) rfl
 refine ⟨?_, ?_, trivial⟩
 ·simp (disch := omega) only [Lq, ewA, ewL, preC, binI, dvI, shI, cmpB, env, bi, List.headD, List.tail, List.map, Nat.reduceAdd, ewB, ewM, if_true, if_false, implies_true, forall_const, ne_eq, reduceCtorEq, Int.reduceEq, Int.reduceLT, Int.reduceLE, Int.reduceToNat, Int.reduceAdd, Int.reduceSub, Int.reduceMul, Int.reduceNeg, Int.reduceBEq, Nat.reduceLT, Nat.reduceEqDiff, hSS, h1, h2, h3, h4, p3]
  exact ⟨y46 p1, by omega⟩
 ·simp (disch := omega) only [GW, e16, SW, ewA, ewL, preC, binI, dvI, shI, cmpB, env, bi, List.headD, List.tail, List.map, Nat.reduceAdd, ewB, ewM, if_true, if_false, implies_true, forall_const, ne_eq, reduceCtorEq, Int.reduceEq, Int.reduceLT, Int.reduceLE, Int.reduceToNat, Int.reduceAdd, Int.reduceSub, Int.reduceMul, Int.reduceNeg, Int.reduceBEq, Nat.reduceLT, Nat.reduceEqDiff, hSS, h1, h2, h3, h4, AX, c2]
theorem ok29 : EntryOK Try.prog G0 e29 := cFok.entryP mixed ev_29 _ rfl _ rfl fun xs hf hp => by
 obtain ⟨l, hl, hF⟩ := AN (l0 := cF.l)
 show Ph.tt cF.l.F _ = true /\ Aq e29.fn _ cF.l.F _ _ _ _
 rw [hl]
 have F46 := FC (k := 46) rfl (hF e46 (by rfl) (by decide))
 have F47 := FC (k := 47) rfl (hF e47 (by rfl) (by decide))
 have hSS := Jj F46 F47
 obtain ⟨S, now, bu, le, mo, T, i, rfl⟩ := Gj hf
 obtain ⟨h0, h1, h2, h3, h4, h5, h6, _⟩ := hf
 simp only [Ad, A0] at h1 h2 h3 h4 h6
 obtain ⟨p1, p2⟩ := hp
 have q1 : 0 < ((dc T).length : Int) /\ ((dc T).length : Int) <= 4096 := p1
 replace p2 : rowsOK k5 (dc T) := p2
 have f47 : e47.fn 0 [S, now, bu, le, mo, T, i] = b2i (decide (0 <= i) && decide (i < ((dc T).length : Int))) := rfl
 by_cases hr : 0 <= i /\ i < ((dc T).length : Int)
 ·have c4 := DX p2 (i := i.toNat) (j := 4) (by omega) rfl
  refine ⟨?_, ?_, ?_, trivial⟩
  all_goals simp (disch := omega) only [Ph, Nq, Nr, KL, SM, e29, fn29, riW, lenT, TW, idW, ewA, ewL, preC, binI, dvI, shI, cmpB, env, bi, List.headD, List.tail, List.map, Nat.reduceAdd, ewB, ewM, if_true, if_false, implies_true, forall_const, ne_eq, reduceCtorEq, Int.reduceEq, Int.reduceLT, Int.reduceLE, Int.reduceToNat, Int.reduceAdd, Int.reduceSub, Int.reduceMul, Int.reduceNeg, Int.reduceBEq, Nat.reduceLT, Nat.reduceEqDiff, hSS, h1, h2, h3, h4, h6, y46 q1, y47 q1, f47, AX, c4, hr]
  ·by_cases hz : gC (dc T) i.toNat 4 = 0 <;> simp [hz]
  ·cases hz : (gC (dc T) i.toNat 4 == 0) <;> simp [bne, beq_iff_eq] at hz <;> simp [hz]
 ·have hr' : (0 <= i -> ((dc T).length : Int) <= i) := by omega
  refine ⟨?_, ?_, ?_, trivial⟩
  all_goals simp (disch := omega) only [Ph, Nq, Nr, KL, SM, e29, fn29, riW, lenT, TW, idW, ewA, ewL, preC, binI, dvI, shI, cmpB, env, bi, List.headD, List.tail, List.map, Nat.reduceAdd, ewB, ewM, if_true, if_false, implies_true, forall_const, ne_eq, reduceCtorEq, Int.reduceEq, Int.reduceLT, Int.reduceLE, Int.reduceToNat, Int.reduceAdd, Int.reduceSub, Int.reduceMul, Int.reduceNeg, Int.reduceBEq, Nat.reduceLT, Nat.reduceEqDiff, hSS, h1, h2, h3, h4, h6, y46 q1, y47 q1, f47, AX, hr]
  have hb : (decide (0 <= i) && decide (i < ((dc T).length : Int))) = false := by simp; omega
  simp [hb]
theorem SO {S now bu le T : Int} {Q : Nat -> List Nat} {w : Int} (h : WOK now bu le (dc S) (dc T) Q w) : WL S T le Q :=
 ⟨h.rS, h.rT, ⟨h.ct.1, h.ct.2.1⟩, h.lk, h.le_rng⟩
theorem y48 {S now bu le mo T i w : Int} {Q : Nat -> List Nat} (h : WOK now bu le (dc S) (dc T) Q w) (hi : 0 <= i /\ i < ((dc T).length : Int)) (hd : 0 < gC (dc T) i.toNat 4) : e48.pre [S, now, bu, le, mo, T, i] :=
 ⟨Q, SO h, hi.1, hi.2, h.of (by show i.toNat < _; omega), h.inn i.toNat (by omega) hd⟩
theorem y49 {S now bu le mo T i d w : Int} {Q : Nat -> List Nat} (h : WOK now bu le (dc S) (dc T) Q w) (hi : 0 <= i /\ i < ((dc T).length : Int)) (hz : gC (dc T) i.toNat 4 = 0) (hd : 0 <= d /\ d <= 1101659111424) : e49.pre [S, now, bu, le, mo, T, i, d] :=
 ⟨Q, SO h, hi.1, hi.2, fun m hm => by
  have e : 0 < gC (dc T) i.toNat 4 := (h.out m _ hm).1
  omega, h.tm, hd⟩
theorem f47 {S now bu le mo T i : Int} : e47.fn 0 [S, now, bu, le, mo, T, i] = b2i (decide (0 <= i) && decide (i < ((dc T).length : Int))) := rfl
theorem Pi {S now bu le mo T i : Int} : e48.fn 0 [S, now, bu, le, mo, T, i] = cd (dpW now (dc S, dc T) i.toNat).1 := rfl
theorem Pj {S now bu le mo T i : Int} : e48.fn 1 [S, now, bu, le, mo, T, i] = now := rfl
theorem Pk {S now bu le mo T i : Int} : e48.fn 2 [S, now, bu, le, mo, T, i] = bu := rfl
theorem Pm {S now bu le mo T i : Int} : e48.fn 3 [S, now, bu, le, mo, T, i] = le - 1 := rfl
theorem Pn {S now bu le mo T i : Int} : e48.fn 4 [S, now, bu, le, mo, T, i] = mo := rfl
theorem Po {S now bu le mo T i : Int} : e48.fn 5 [S, now, bu, le, mo, T, i] = cd (dpW now (dc S, dc T) i.toNat).2 := rfl
theorem SP {S now bu le mo T i d : Int} : e49.fn 0 [S, now, bu, le, mo, T, i, d] = cd (ptW now d (dc S, dc T) i.toNat).1 := rfl
theorem SQ {S now bu le mo T i d : Int} : e49.fn 1 [S, now, bu, le, mo, T, i, d] = now := rfl
theorem SR {S now bu le mo T i d : Int} : e49.fn 2 [S, now, bu, le, mo, T, i, d] = bu := rfl
theorem SS {S now bu le mo T i d : Int} : e49.fn 3 [S, now, bu, le, mo, T, i, d] = le + 1 := rfl
theorem ST {S now bu le mo T i d : Int} : e49.fn 4 [S, now, bu, le, mo, T, i, d] = mo := rfl
theorem SU {S now bu le mo T i d : Int} : e49.fn 5 [S, now, bu, le, mo, T, i, d] = cd (ptW now d (dc S, dc T) i.toNat).2 := rfl
theorem ok24 : EntryOK Try.prog G0 e24 := cFok.entryP mixed SN _ rfl _ rfl fun xs hf hp => by
 obtain ⟨l, hl, hF⟩ := AN (l0 := cF.l)
 show Gk.tt cF.l.F _ = true /\ Aq e24.fn _ cF.l.F _ _ _ _
 rw [hl]
 have F46 := FC (k := 46) rfl (hF e46 (by rfl) (by decide))
 have F47 := FC (k := 47) rfl (hF e47 (by rfl) (by decide))
 have F48 := FC (k := 48) rfl (hF e48 (by rfl) (by decide))
 have hSS := Jj F46 (Jj F47 F48)
 obtain ⟨S, now, bu, le, mo, T, i, rfl⟩ := Gj hf
 obtain ⟨h0, h1, h2, h3, h4, h5, h6, _⟩ := hf
 simp only [Ad, A0] at h1 h2 h3 h4 h6
 obtain ⟨⟨Q, p1⟩, p2, p3⟩ := hp
 replace p1 : WOK now bu le (dc S) (dc T) Q (bu * (255 - now % 256)) := p1
 have q1 : 0 < ((dc T).length : Int) /\ ((dc T).length : Int) <= 4096 := ⟨by have := p1.ct; omega, by have := p1.ct; omega⟩
 have hle := p1.le_rng
 by_cases hr : 0 <= i /\ i < ((dc T).length : Int)
 ·have c4 := DX p1.rT (i := i.toNat) (j := 4) (by omega) rfl
  have hdr := p1.dr i.toNat (by omega)
  by_cases hz : gC (dc T) i.toNat 4 = 0
  ·refine ⟨?_, ?_, ?_, ?_, ?_, ?_, ?_, ?_, trivial⟩
   all_goals simp (disch := omega) only [Gk, AJ, A1, Bq, AK, CY, e24, fn24, riW, lenT, SW, TW, idW, ewA, ewL, preC, binI, dvI, shI, cmpB, env, bi, List.headD, List.tail, List.map, Nat.reduceAdd, ewB, ewM, if_true, if_false, implies_true, forall_const, ne_eq, reduceCtorEq, Int.reduceEq, Int.reduceLT, Int.reduceLE, Int.reduceToNat, Int.reduceAdd, Int.reduceSub, Int.reduceMul, Int.reduceNeg, Int.reduceBEq, Nat.reduceLT, Nat.reduceEqDiff, hSS, h1, h2, h3, h4, h6, y46 q1, y47 q1, f47, AX, c4, hr, hz]
  ·have w3 : IntKind.i64.wrap (le - 1) = le - 1 := i64w (by omega) (by omega)
   have y := y48 (mo := mo) p1 hr (by omega)
   refine ⟨?_, ?_, ?_, ?_, ?_, ?_, ?_, ?_, trivial⟩
   all_goals simp (disch := omega) only [Gk, AJ, A1, Bq, AK, CY, e24, fn24, riW, lenT, SW, TW, idW, ewA, ewL, preC, binI, dvI, shI, cmpB, env, bi, List.headD, List.tail, List.map, Nat.reduceAdd, ewB, ewM, if_true, if_false, implies_true, forall_const, ne_eq, reduceCtorEq, Int.reduceEq, Int.reduceLT, Int.reduceLE, Int.reduceToNat, Int.reduceAdd, Int.reduceSub, Int.reduceMul, Int.reduceNeg, Int.reduceBEq, Nat.reduceLT, Nat.reduceEqDiff, hSS, h1, h2, h3, h4, h6, y46 q1, y47 q1, f47, AX, c4, hr, hz, y, w3, Pi, Pj, Pk, Pm, Pn, Po]
 ·refine ⟨?_, ?_, ?_, ?_, ?_, ?_, ?_, ?_, trivial⟩
  all_goals simp (disch := omega) only [Gk, AJ, A1, Bq, AK, CY, e24, fn24, riW, lenT, SW, TW, idW, ewA, ewL, preC, binI, dvI, shI, cmpB, env, bi, List.headD, List.tail, List.map, Nat.reduceAdd, ewB, ewM, if_true, if_false, implies_true, forall_const, ne_eq, reduceCtorEq, Int.reduceEq, Int.reduceLT, Int.reduceLE, Int.reduceToNat, Int.reduceAdd, Int.reduceSub, Int.reduceMul, Int.reduceNeg, Int.reduceBEq, Nat.reduceLT, Nat.reduceEqDiff, hSS, h1, h2, h3, h4, h6, y46 q1, y47 q1, f47, AX, hr]
  rw [if_pos (by omega)]
theorem ok14 : EntryOK Try.prog G0 e14 := cFok.entryP mixed ev_14 _ rfl _ rfl fun xs hf hp => by
 obtain ⟨l, hl, hF⟩ := AN (l0 := cF.l)
 show Lr.tt cF.l.F _ = true /\ Aq e14.fn _ cF.l.F _ _ _ _
 rw [hl]
 have F46 := FC (k := 46) rfl (hF e46 (by rfl) (by decide))
 have F47 := FC (k := 47) rfl (hF e47 (by rfl) (by decide))
 have F48 := FC (k := 48) rfl (hF e48 (by rfl) (by decide))
 have F49 := FC (k := 49) rfl (hF e49 (by rfl) (by decide))
 have hSS := Jj (Jj F46 F47) (Jj F48 F49)
 obtain ⟨S, now, bu, le, mo, T, i, d, rfl⟩ := SF hf
 obtain ⟨h0, h1, h2, h3, h4, h5, h6, h7, _⟩ := hf
 simp only [Ad, A0] at h1 h2 h3 h4 h6 h7
 obtain ⟨⟨Q, p1⟩, p2, p3⟩ := hp
 replace p1 : WOK now bu le (dc S) (dc T) Q (bu * (255 - now % 256)) := p1
 have q1 : 0 < ((dc T).length : Int) /\ ((dc T).length : Int) <= 4096 := ⟨by have := p1.ct; omega, by have := p1.ct; omega⟩
 have hle := p1.le_rng
 have htm := p1.tm
 have w7 : IntKind.i64.wrap (now + 2147483648) = now + 2147483648 := i64w (by omega) (by omega)
 by_cases hr : 0 <= i /\ i < ((dc T).length : Int)
 ·by_cases hd : now < d /\ d <= now + 2147483648
  ·have hk : okA [S, now, bu, le, mo, T, i, d] := ⟨hr, hd⟩
   have c4 := DX p1.rT (i := i.toNat) (j := 4) (by omega) rfl
   have hdr := p1.dr i.toNat (by omega)
   have g1 : ¬ d <= now := by omega
   have g2 : ¬ now + 2147483648 < d := by omega
   by_cases hz : 0 < gC (dc T) i.toNat 4
   ·have w3 : IntKind.i64.wrap (le - 1) = le - 1 := i64w (by omega) (by omega)
    have y := y48 (mo := mo) p1 hr hz
    obtain ⟨A, B, _, k1, k2, k3, k4⟩ := p1.drop (i := i.toNat) (by omega) hz
    obtain ⟨S1, eS⟩ : ∃ S1, S1 = cd (dpW now (dc S, dc T) i.toNat).1 := ⟨_, rfl⟩
    obtain ⟨T1, eT⟩ : ∃ T1, T1 = cd (dpW now (dc S, dc T) i.toNat).2 := ⟨_, rfl⟩
    have dS : dc S1 = (dpW now (dc S, dc T) i.toNat).1 := by rw [eS, Ac]
    have dT : dc T1 = (dpW now (dc S, dc T) i.toNat).2 := by rw [eT, Ac]
    have y' : e49.pre [S1, now, bu, le - 1, mo, T1, i, d] := by
     refine y49 (Q := _) (w := _) (by rw [dS, dT]; exact k1) (by rw [dT]; exact ⟨hr.1, by rw [show (dpW now (dc S, dc T) i.toNat).2.length = (dc T).length from k2]; exact hr.2⟩) (by rw [dT]; exact k4) (by omega)
    have w5 : IntKind.i64.wrap (le - 1 + 1) = le := by rw [i64w (by omega) (by omega)]; omega
    refine ⟨?_, ?_, ?_, ?_, ?_, ?_, ?_, ?_, trivial⟩
    all_goals simp (disch := omega) only [Lr, Ck, C3, IG, Ee, Ef, Eg, Eh, Ei, Ej, Ns, e14, fn14, riW, lenT, SW, TW, idW, armW, clW, ewA, ewL, preC, binI, dvI, shI, cmpB, env, bi, List.headD, List.tail, List.map, Nat.reduceAdd, ewB, ewM, if_true, if_false, implies_true, forall_const, ne_eq, reduceCtorEq, Int.reduceEq, Int.reduceLT, Int.reduceLE, Int.reduceToNat, Int.reduceAdd, Int.reduceSub, Int.reduceMul, Int.reduceNeg, Int.reduceBEq, Nat.reduceLT, Nat.reduceEqDiff, hSS, h1, h2, h3, h4, h6, h7, y46 q1, y47 q1, f47, AX, c4, hr, if_pos hk, hd.1, hd.2, g1, g2, hz, y, w3, w5, w7, Pi, Pj, Pk, Pm, Pn, Po, <- eS, <- eT, y', SP, SQ, SR, SS, ST, SU, dS, dT]
    all_goals (try rfl)
   ·have e4 : gC (dc T) i.toNat 4 = 0 := by omega
    have y := y49 (mo := mo) (d := d) p1 hr e4 (by omega)
    have w5 : IntKind.i64.wrap (le + 1) = le + 1 := i64w (by omega) (by omega)
    refine ⟨?_, ?_, ?_, ?_, ?_, ?_, ?_, ?_, trivial⟩
    all_goals simp (disch := omega) only [Lr, Ck, C3, IG, Ee, Ef, Eg, Eh, Ei, Ej, Ns, e14, fn14, riW, lenT, SW, TW, idW, armW, clW, ewA, ewL, preC, binI, dvI, shI, cmpB, env, bi, List.headD, List.tail, List.map, Nat.reduceAdd, ewB, ewM, if_true, if_false, implies_true, forall_const, ne_eq, reduceCtorEq, Int.reduceEq, Int.reduceLT, Int.reduceLE, Int.reduceToNat, Int.reduceAdd, Int.reduceSub, Int.reduceMul, Int.reduceNeg, Int.reduceBEq, Nat.reduceLT, Nat.reduceEqDiff, hSS, h1, h2, h3, h4, h6, h7, y46 q1, y47 q1, f47, AX, c4, hr, if_pos hk, hd.1, hd.2, g1, g2, hz, y, w5, w7, SP, SQ, SR, SS, ST, SU]
  ·have hk : ¬ okA [S, now, bu, le, mo, T, i, d] := fun h => hd h.2
   have hn : now < d -> now + 2147483648 < d := fun _ => by omega
   refine ⟨?_, ?_, ?_, ?_, ?_, ?_, ?_, ?_, trivial⟩
   all_goals simp (disch := omega) only [Lr, Ck, C3, IG, Ee, Ef, Eg, Eh, Ei, Ej, Ns, e14, fn14, riW, lenT, SW, TW, idW, ewA, ewL, preC, binI, dvI, shI, cmpB, env, bi, List.headD, List.tail, List.map, Nat.reduceAdd, ewB, ewM, if_true, if_false, implies_true, forall_const, ne_eq, reduceCtorEq, Int.reduceEq, Int.reduceLT, Int.reduceLE, Int.reduceToNat, Int.reduceAdd, Int.reduceSub, Int.reduceMul, Int.reduceNeg, Int.reduceBEq, Nat.reduceLT, Nat.reduceEqDiff, hSS, h1, h2, h3, h4, h6, h7, y46 q1, y47 q1, f47, AX, hr, hd, if_neg hk, w7]
   all_goals first | exact fun h => h | rw [if_pos hn]
 ·have hk : ¬ okA [S, now, bu, le, mo, T, i, d] := fun h => hr h.1
  refine ⟨?_, ?_, ?_, ?_, ?_, ?_, ?_, ?_, trivial⟩
  all_goals simp (disch := omega) only [Lr, Ck, C3, IG, Ee, Ef, Eg, Eh, Ei, Ej, Ns, e14, fn14, riW, lenT, SW, TW, idW, ewA, ewL, preC, binI, dvI, shI, cmpB, env, bi, List.headD, List.tail, List.map, Nat.reduceAdd, ewB, ewM, if_true, if_false, implies_true, forall_const, ne_eq, reduceCtorEq, Int.reduceEq, Int.reduceLT, Int.reduceLE, Int.reduceToNat, Int.reduceAdd, Int.reduceSub, Int.reduceMul, Int.reduceNeg, Int.reduceBEq, Nat.reduceLT, Nat.reduceEqDiff, hSS, h1, h2, h3, h4, h6, h7, y46 q1, y47 q1, f47, AX, hr, if_neg hk, w7]
def tkN (now : Int) : Nat -> RL × RL -> (RL × RL) × RL
 | 0, p => (p, [])
 | n + 1, p => if 0 < gC p.1 2048 2 then ((tkN now n (dpW now p (gC p.1 2048 0 - 1).toNat)).1, [gC p.1 2048 0 - 1] :: (tkN now n (dpW now p (gC p.1 2048 0 - 1).toNat)).2) else (p, [])
def nTk (xs : List Int) : Nat := (env xs 6 - ((dc (env xs 7)).length : Int)).toNat
def tkR (xs : List Int) : (RL × RL) × RL := tkN (env xs 1) (nTk xs) (SW xs, TW xs)
def fnTk (j : Nat) (xs : List Int) : Int := match j with
 | 0 => if (tkR xs).2 = [] then env xs 0 else cd (tkR xs).1.1
 | 1 => env xs 1
 | 2 => env xs 2
 | 3 => env xs 3 - ((tkR xs).2.length : Int)
 | 4 => env xs 4
 | 5 => if (tkR xs).2 = [] then env xs 5 else cd (tkR xs).1.2
 | _ => if (tkR xs).2 = [] then env xs 7 else cd (dc (env xs 7) ++ (tkR xs).2)
def preTk (xs : List Int) : Prop := (∃ Q w, WOK (env xs 1) (env xs 2) (env xs 3) (SW xs) (TW xs) Q w) /\ ((dc (env xs 7)).length : Int) + env xs 3 <= 8192
def pTk : List Bool := [true,true,true,false,false]
def leTk : LEnt := ⟨⟨9017, 999999, [wsh, i64, lio], [wob], [], .tup [lio], fnTk, preTk⟩, [0, 1, 6], [6], (List.range 29).map (· + 13), [.ex 1], 43, []⟩
def muTk (xs : List Int) : Nat := nTk xs
def pTi : List Bool := [true,true,true,true,true,false,false]
def nTi (xs : List Int) : Nat := (env xs 2 - env xs 6).toNat
def mvR (xs : List Int) : (RL × RL) × Int := mvN (env xs 1) (nTi xs) (SW xs, TW xs)
def fnTi (j : Nat) (xs : List Int) : Int := match j with
 | 0 => if (mvR xs).2 = 0 then env xs 0 else cd (mvR xs).1.1
 | 1 => env xs 1
 | 2 => env xs 2
 | 3 => env xs 3
 | 4 => env xs 4
 | 5 => if (mvR xs).2 = 0 then env xs 5 else cd (mvR xs).1.2
 | _ => env xs 6 + (mvR xs).2
def preTi (xs : List Int) : Prop := (∃ Q w, WOK (env xs 1) (env xs 2) (env xs 3) (SW xs) (TW xs) Q w) /\ 0 <= env xs 6 /\ env xs 6 <= env xs 2
def muTi (xs : List Int) : Nat := nTi xs
def leTi : LEnt := ⟨⟨9015, 999999, [wsh, i64], [wob], [], .tup [i64], fnTi, preTi⟩, [0, 4], [4], [5, 6] ++ (List.range 30).map (· + 35), [.ex 1], 74, []⟩
def pMv : List Bool := [true,true,true,true,true,false,false,false,true,false,false,true,true]
def fnMv (j : Nat) (xs : List Int) : Int := match j with
 | 0 => cd (mvW (env xs 1) (SW xs, TW xs)).1
 | 1 => env xs 1
 | 2 => env xs 2
 | 3 => env xs 3
 | 4 => env xs 4
 | _ => cd (mvW (env xs 1) (SW xs, TW xs)).2
def preMv (xs : List Int) : Prop := (∃ Q w, WOK (env xs 1) (env xs 2) (env xs 3) (SW xs) (TW xs) Q w) /\ wtF (SW xs) (env xs 1) = env xs 6 /\ env xs 6 ≠ 0
def leMv : LEnt := ⟨⟨9115, 999999, [wsh, i64], [wob], [], .tup [], fnMv, preMv⟩, [0, 5], [], 6 :: (List.range 18).map (· + 47), [.nrm], 74, []⟩
def cG : Ctx := ⟨[e48, e49, e51], []⟩
def cM : Ctx := ⟨[e48, e49], []⟩
def cN : Ctx := ⟨[e51], [(39, pMv, leMv)]⟩
def Hb : E := (.and (.cmp .lss (aI 0 0 [(vX 7)]) (vI 6)) (.cmp .gtr (aI 0 1 [(vX 0), (lI 2048), (.lit .x 2)]) (lI 0)))
def BK : E := (.not Hb)
def C6 : E := (.bin .sub .i64 (aI 0 1 [(vX 0), (lI 2048), (.lit .x 0)]) (lI 1))
def Cs : E := (aX 0 4 [(vX 7), (aX 0 3 [(aX 0 2 []), C6])])
def C7 : E := (aX 48 0 [(vX 0), (vI 1), (vI 2), (vI 3), (vI 4), (vX 5), C6])
def C8 : E := (aI 48 1 [(vX 0), (vI 1), (vI 2), (vI 3), (vI 4), (vX 5), C6])
def C9 : E := (aI 48 2 [(vX 0), (vI 1), (vI 2), (vI 3), (vI 4), (vX 5), C6])
def Da : E := (aI 48 3 [(vX 0), (vI 1), (vI 2), (vI 3), (vI 4), (vX 5), C6])
def Db : E := (aI 48 4 [(vX 0), (vI 1), (vI 2), (vI 3), (vI 4), (vX 5), C6])
def Dc : E := (aX 48 5 [(vX 0), (vI 1), (vI 2), (vI 3), (vI 4), (vX 5), C6])
def KM : E := (.and (.and (.and (.or (.not (.cmp .lss (aI 0 0 [(vX 7)]) (vI 6))) (.cmp .lss (lI 2048) (aI 0 0 [(vX 0)]))) (.or BK (.and (.and (.cmp .lss (lI 2048) (aI 0 0 [(vX 0)])) (.cmp .leq (aX 0 0 [Cs]) (.lit .x 17592186044416))) (.and (.cmp .lss (lI 2048) (aI 0 0 [(vX 0)])) (.app .b 48 1000000 [(vX 0), (vI 1), (vI 2), (vI 3), (vI 4), (vX 5), C6]))))) (.or BK (.app .b 9017 1000000 [C7, C8, C9, Da, Db, Dc, (vI 6), Cs]))) (.or (.not (.or BK Hb)) (.ite BK BK Hb)))
def Nt : List E := [(.ite BK (vX 0) (aX 9017 0 [C7, C8, C9, Da, Db, Dc, (vI 6), Cs])), (.ite BK (vI 1) (aI 9017 1 [C7, C8, C9, Da, Db, Dc, (vI 6), Cs])), (.ite BK (vI 2) (aI 9017 2 [C7, C8, C9, Da, Db, Dc, (vI 6), Cs])), (.ite BK (vI 3) (aI 9017 3 [C7, C8, C9, Da, Db, Dc, (vI 6), Cs])), (.ite BK (vI 4) (aI 9017 4 [C7, C8, C9, Da, Db, Dc, (vI 6), Cs])), (.ite BK (vX 5) (aX 9017 5 [C7, C8, C9, Da, Db, Dc, (vI 6), Cs])), (.ite BK (vX 7) (aX 9017 6 [C7, C8, C9, Da, Db, Dc, (vI 6), Cs]))]
theorem Xe : evL Try.prog G0 (Af cG.fs) (evFn Try.prog G0 (Af cG.fs) (ltOf cG.ls) 40 10) 40 (subL cG.ls 41 pTk) leTk (BQ Try.prog 41 pTk) = some (KM, Nt) := by kernel_rfl
def E3 : E := (aX 48 0 [(vX 0), (vI 1), (vI 2), (vI 3), (vI 4), (vX 5), (.bin .sub .i64 (vI 6) (lI 1))])
def E4 : E := (aI 48 1 [(vX 0), (vI 1), (vI 2), (vI 3), (vI 4), (vX 5), (.bin .sub .i64 (vI 6) (lI 1))])
def E5 : E := (aI 48 2 [(vX 0), (vI 1), (vI 2), (vI 3), (vI 4), (vX 5), (.bin .sub .i64 (vI 6) (lI 1))])
def E6 : E := (aI 48 3 [(vX 0), (vI 1), (vI 2), (vI 3), (vI 4), (vX 5), (.bin .sub .i64 (vI 6) (lI 1))])
def E7 : E := (aI 48 4 [(vX 0), (vI 1), (vI 2), (vI 3), (vI 4), (vX 5), (.bin .sub .i64 (vI 6) (lI 1))])
def E8 : E := (aX 48 5 [(vX 0), (vI 1), (vI 2), (vI 3), (vI 4), (vX 5), (.bin .sub .i64 (vI 6) (lI 1))])
def E9 : E := (aI 0 1 [(vX 5), (.bin .sub .i64 (vI 6) (lI 1)), (.lit .x 4)])
def Qk : E := (.and (.and (.cmp .geq (.bin .sub .i64 (vI 6) (lI 1)) (lI 0)) (.cmp .lss (.bin .sub .i64 (vI 6) (lI 1)) (aI 0 0 [(vX 5)]))) (.and (.app .b 48 1000000 [(vX 0), (vI 1), (vI 2), (vI 3), (vI 4), (vX 5), (.bin .sub .i64 (vI 6) (lI 1))]) (.app .b 49 1000000 [E3, E4, E5, E6, E7, E8, (.bin .sub .i64 (vI 6) (lI 1)), E9])))
def UW : List E := [(aX 49 0 [E3, E4, E5, E6, E7, E8, (.bin .sub .i64 (vI 6) (lI 1)), E9]), (aI 49 1 [E3, E4, E5, E6, E7, E8, (.bin .sub .i64 (vI 6) (lI 1)), E9]), (aI 49 2 [E3, E4, E5, E6, E7, E8, (.bin .sub .i64 (vI 6) (lI 1)), E9]), (aI 49 3 [E3, E4, E5, E6, E7, E8, (.bin .sub .i64 (vI 6) (lI 1)), E9]), (aI 49 4 [E3, E4, E5, E6, E7, E8, (.bin .sub .i64 (vI 6) (lI 1)), E9]), (aX 49 5 [E3, E4, E5, E6, E7, E8, (.bin .sub .i64 (vI 6) (lI 1)), E9])]
theorem Xf : evP Try.prog G0 (Af cM.fs) (evFn Try.prog G0 (Af cM.fs) (ltOf cM.ls) 40 10) 40 (subP cM.ls 39 pMv) leMv (Cr Try.prog 39 pMv) = some (Qk, UW) := by kernel_rfl
def Dd : E := (aI 51 0 [(vX 0), (vI 1), (vI 2), (vI 3), (vI 4), (vX 5)])
def Hc : E := (.cmp .eql Dd (lI 0))
def IH : E := (.and (.cmp .lss (vI 6) (vI 2)) (.not Hc))
def De : E := (aX 9115 0 [(vX 0), (vI 1), (vI 2), (vI 3), (vI 4), (vX 5), Dd])
def Df : E := (aI 9115 1 [(vX 0), (vI 1), (vI 2), (vI 3), (vI 4), (vX 5), Dd])
def Dg : E := (aI 9115 2 [(vX 0), (vI 1), (vI 2), (vI 3), (vI 4), (vX 5), Dd])
def Dh : E := (aI 9115 3 [(vX 0), (vI 1), (vI 2), (vI 3), (vI 4), (vX 5), Dd])
def Di : E := (aI 9115 4 [(vX 0), (vI 1), (vI 2), (vI 3), (vI 4), (vX 5), Dd])
def Dj : E := (aX 9115 5 [(vX 0), (vI 1), (vI 2), (vI 3), (vI 4), (vX 5), Dd])
def BS : E := (.or (.not (.cmp .lss (vI 6) (vI 2))) (.and (.cmp .lss (vI 6) (vI 2)) Hc))
def KN : E := (.and (.and (.or (.not (.cmp .lss (vI 6) (vI 2))) (.and (.app .b 51 1000000 [(vX 0), (vI 1), (vI 2), (vI 3), (vI 4), (vX 5)]) (.or Hc (.app .b 9115 1000000 [(vX 0), (vI 1), (vI 2), (vI 3), (vI 4), (vX 5), Dd])))) (.or (.not IH) (.app .b 9015 1000000 [De, Df, Dg, Dh, Di, Dj, (.bin .add .i64 (vI 6) (lI 1))]))) (.or (.not (.or BS IH)) (.ite BS BS (.not BS))))
def Nu : List E := [(.ite BS (vX 0) (aX 9015 0 [De, Df, Dg, Dh, Di, Dj, (.bin .add .i64 (vI 6) (lI 1))])), (.ite BS (vI 1) (aI 9015 1 [De, Df, Dg, Dh, Di, Dj, (.bin .add .i64 (vI 6) (lI 1))])), (.ite BS (vI 2) (aI 9015 2 [De, Df, Dg, Dh, Di, Dj, (.bin .add .i64 (vI 6) (lI 1))])), (.ite BS (vI 3) (aI 9015 3 [De, Df, Dg, Dh, Di, Dj, (.bin .add .i64 (vI 6) (lI 1))])), (.ite BS (vI 4) (aI 9015 4 [De, Df, Dg, Dh, Di, Dj, (.bin .add .i64 (vI 6) (lI 1))])), (.ite BS (vX 5) (aX 9015 5 [De, Df, Dg, Dh, Di, Dj, (.bin .add .i64 (vI 6) (lI 1))])), (.ite BS (vI 6) (aI 9015 6 [De, Df, Dg, Dh, Di, Dj, (.bin .add .i64 (vI 6) (lI 1))]))]
theorem Xg : evL Try.prog G0 (Af cN.fs) (evFn Try.prog G0 (Af cN.fs) (ltOf cN.ls) 40 10) 40 (subL cN.ls 39 pTi) leTi (BQ Try.prog 39 pTi) = some (KN, Nu) := by kernel_rfl
theorem cGok : cG.OK Try.prog G0 := ((Ctx.OK.nil.addF ok51 rfl).addF ok49 rfl).addF ok48 rfl
theorem cMok : cM.OK Try.prog G0 := (Ctx.OK.nil.addF ok49 rfl).addF ok48 rfl
theorem Xh {S T : RL} {now : Int} {i : Nat} (h : wtF S now = (i : Int) + 1) : mvW now (S, T) = ptW now (gC T i 4) (dpW now (S, T) i) i := by
 have e : (wtF S now - 1).toNat = i := by omega
 show (putS (dropS S (locI now T (wtF S now - 1).toNat).toNat (gC T (wtF S now - 1).toNat 2) (gC T (wtF S now - 1).toNat 3)) _ _, _) = _
 rw [e]; rfl
theorem okMv : Bc Try.prog G0 39 pMv leMv := by
 refine cMok.pieceP mixed ?_ Xf _ rfl _ rfl ?_
 ·exact ⟨_, _, _, Try.func39, rfl, rfl⟩
 intro xs hf hp
 obtain ⟨l, hl, hF⟩ := AN (l0 := cM.l)
 show Qk.tt cM.l.F _ = true /\ Aq leMv.ent.fn _ cM.l.F _ _ _ _
 rw [hl]
 have F48 := FC (k := 48) rfl (hF e48 (by rfl) (by decide))
 have F49 := FC (k := 49) rfl (hF e49 (by rfl) (by decide))
 have hSS := Jj F48 F49
 obtain ⟨S, now, bu, le, mo, T, k, rfl⟩ := Gj hf
 obtain ⟨h0, h1, h2, h3, h4, h5, h6, _⟩ := hf
 simp only [Ad, A0] at h1 h2 h3 h4 h6
 obtain ⟨⟨Q, w, p1⟩, p2, p3⟩ := hp
 replace p1 : WOK now bu le (dc S) (dc T) Q w := p1
 replace p2 : wtF (dc S) now = k := p2
 replace p3 : k ≠ 0 := p3
 obtain ⟨i, g1, g2, g3⟩ := p1.wait_pos (by rw [p2]; exact p3)
 have hle := p1.le_rng
 have hct := p1.ct
 have htm := p1.tm
 have hdr := p1.dr i g2
 have hwi := (Gu.1 g3).1
 have ek : k - 1 = (i : Int) := by omega
 have wk : IntKind.i64.wrap (k - 1) = (i : Int) := by rw [i64w (by omega) (by omega)]; exact ek
 have en : ((i : Int)).toNat = i := by omega
 have c4 := DX p1.rT (i := i) (j := 4) (by omega) rfl
 have w3 : IntKind.i64.wrap (le - 1) = le - 1 := i64w (by omega) (by omega)
 have w5 : IntKind.i64.wrap (le - 1 + 1) = le := by rw [i64w (by omega) (by omega)]; omega
 have y := y48 (mo := mo) (i := (i : Int)) p1 (by omega) (by rw [en]; omega)
 obtain ⟨A, B, _, k1, k2, k3, k4⟩ := p1.drop (i := i) g2 (by omega)
 obtain ⟨S1, eS⟩ : ∃ S1, S1 = cd (dpW now (dc S, dc T) i).1 := ⟨_, rfl⟩
 obtain ⟨T1, eT⟩ : ∃ T1, T1 = cd (dpW now (dc S, dc T) i).2 := ⟨_, rfl⟩
 have dS : dc S1 = (dpW now (dc S, dc T) i).1 := by rw [eS, Ac]
 have dT : dc T1 = (dpW now (dc S, dc T) i).2 := by rw [eT, Ac]
 have y' : e49.pre [S1, now, bu, le - 1, mo, T1, (i : Int), gC (dc T) i 4] := by
  refine y49 (Q := _) (w := _) (by rw [dS, dT]; exact k1) (by rw [dT]; exact ⟨by omega, by rw [show (dpW now (dc S, dc T) i).2.length = (dc T).length from k2]; omega⟩) (by rw [dT, en]; exact k4) (by omega)
 have e1 : leMv.ent.fn = fnMv := rfl
 have em := Xh (T := dc T) (by rw [p2]; omega : wtF (dc S) now = (i : Int) + 1)
 refine ⟨?_, ?_, ?_, ?_, ?_, ?_, ?_, trivial⟩
 all_goals simp (disch := omega) only [Qk, E3, E4, E5, E6, E7, E8, E9, UW, e1, fnMv, em, SW, TW, ewA, ewL, preC, binI, dvI, shI, cmpB, env, bi, List.headD, List.tail, List.map, Nat.reduceAdd, ewB, ewM, if_true, if_false, implies_true, forall_const, ne_eq, reduceCtorEq, Int.reduceEq, Int.reduceLT, Int.reduceLE, Int.reduceToNat, Int.reduceAdd, Int.reduceSub, Int.reduceMul, Int.reduceNeg, Int.reduceBEq, Nat.reduceLT, Nat.reduceEqDiff, hSS, h1, h2, h3, h4, h6, wk, AX, c4, en, y, w3, w5, Pi, Pj, Pk, Pm, Pn, Po, <- eS, <- eT, y', SP, SQ, SR, SS, ST, SU, dS, dT]
 omega
theorem cNok : cN.OK Try.prog G0 := Ctx.OK.addL (c := ⟨[e51], []⟩) (Ctx.OK.nil.addF ok51 rfl) okMv rfl
theorem Nv {now : Int} : ∀ (n : Nat) (p : RL × RL), 0 <= (mvN now n p).2
 | 0, _ => Int.le_refl _
 | n + 1, p => by
   by_cases hz : wtF p.1 now = 0
   ·simp only [mvN, if_pos hz]; exact Int.le_refl _
   ·simp only [mvN, if_neg hz]
    have := Nv n (mvW now p) (now := now)
    omega
theorem Ql {now : Int} : ∀ (n : Nat) (p : RL × RL), (mvN now n p).2 <= (n : Int)
 | 0, _ => Int.le_refl _
 | n + 1, p => by
   by_cases hz : wtF p.1 now = 0
   ·simp only [mvN, if_pos hz]; omega
   ·simp only [mvN, if_neg hz]
    have := Ql n (mvW now p) (now := now)
    omega
theorem Qm {now : Int} : ∀ {n : Nat} {p : RL × RL}, (mvN now n p).2 = 0 -> (mvN now n p).1 = p
 | 0, _, _ => rfl
 | n + 1, p, h => by
   by_cases hz : wtF p.1 now = 0
   ·simp only [mvN, if_pos hz]
   ·simp only [mvN, if_neg hz] at h
    have := Nv n (mvW now p) (now := now)
    omega
theorem y51 {S now bu le mo T w : Int} {Q : Nat -> List Nat} (h : WOK now bu le (dc S) (dc T) Q w) : e51.pre [S, now, bu, le, mo, T] := ⟨h.rS, h.lk.sw.1, h.tm⟩
theorem okTi : Bc Try.prog G0 39 pTi leTi := by
 refine cNok.loopP mixed muTi rfl ?_ Xg _ rfl _ rfl ?_
 ·exact ⟨_, _, _, Try.func39, rfl, rfl⟩
 intro n xs hf hp hmu
 obtain ⟨l, hl, hS, hF⟩ := UG leTi muTi n cN.l (by decide)
 show KN.tt (Tabs.F (enL leTi muTi n :: cN.l)) _ = true /\ Aq leTi.ent.fn _ (Tabs.F (enL leTi muTi n :: cN.l)) _ _ _ _
 rw [hl]
 have F51 := FC (k := 51) rfl (hF e51 (by rfl) (by decide) (by decide))
 have F9015 := FC (k := 9015) rfl hS
 have F9115 := FC (k := 9115) rfl (hF leMv.ent (by rfl) (by decide) (by decide))
 have hSS := Jj F51 (Jj F9015 F9115)
 obtain ⟨S, now, bu, le, mo, T, k, rfl⟩ := Gj hf
 obtain ⟨h0, h1, h2, h3, h4, h5, h6, _⟩ := hf
 simp only [Ad, A0] at h1 h2 h3 h4 h6
 obtain ⟨⟨Q, w, p1⟩, p2, p3⟩ := hp
 replace p1 : WOK now bu le (dc S) (dc T) Q w := p1
 replace p2 : 0 <= k := p2
 replace p3 : k <= bu := p3
 replace hmu : (bu - k).toNat <= n := hmu
 have hbg := p1.bg
 have e1 : leTi.ent.fn = fnTi := rfl
 have e2 : leTi.ent.pre = preTi := rfl
 have f51 : e51.fn 0 [S, now, bu, le, mo, T] = wtF (dc S) now := rfl
 have y := y51 (mo := mo) p1
 have w1 : IntKind.i64.wrap (k + 1) = k + 1 := i64w (by omega) (by omega)
 by_cases hk : k < bu
 ·have en : nTi [S, now, bu, le, mo, T, k] = nTi [S, now, bu, le, mo, T, k + 1] + 1 := by
   show (bu - k).toNat = (bu - (k + 1)).toNat + 1
   omega
  by_cases hz : wtF (dc S) now = 0
  ·have hr : mvR [S, now, bu, le, mo, T, k] = ((dc S, dc T), 0) := by
    unfold mvR; rw [en]; exact if_pos hz
   refine ⟨?_, ?_, ?_, ?_, ?_, ?_, ?_, ?_, trivial⟩
   all_goals simp (disch := omega) only [KN, Dd, Hc, IH, De, Df, Dg, Dh, Di, Dj, BS, Nu, e1, fnTi, hr, ewA, ewL, preC, binI, dvI, shI, cmpB, env, bi, List.headD, List.tail, List.map, Nat.reduceAdd, ewB, ewM, if_true, if_false, implies_true, forall_const, ne_eq, reduceCtorEq, Int.reduceEq, Int.reduceLT, Int.reduceLE, Int.reduceToNat, Int.reduceAdd, Int.reduceSub, Int.reduceMul, Int.reduceNeg, Int.reduceBEq, Nat.reduceLT, Nat.reduceEqDiff, hSS, h1, h2, h3, h4, h6, hk, f51, hz, y]
   all_goals omega
  ·obtain ⟨i, g1, g2, g3⟩ := p1.wait_pos hz
   obtain ⟨Q', m1, m2, _⟩ := p1.move g1 g2 g3
   have ym : leMv.ent.pre [S, now, bu, le, mo, T, wtF (dc S) now] := ⟨⟨Q, w, p1⟩, rfl, hz⟩
   have wz : IntKind.i64.wrap (wtF (dc S) now) = wtF (dc S) now := by rw [g1]; have := p1.ct; exact i64w (by omega) (by omega)
   obtain ⟨S1, eS⟩ : ∃ S1, S1 = cd (mvW now (dc S, dc T)).1 := ⟨_, rfl⟩
   obtain ⟨T1, eT⟩ : ∃ T1, T1 = cd (mvW now (dc S, dc T)).2 := ⟨_, rfl⟩
   have dS : dc S1 = (mvW now (dc S, dc T)).1 := by rw [eS, Ac]
   have dT : dc T1 = (mvW now (dc S, dc T)).2 := by rw [eT, Ac]
   have m0 : leMv.ent.fn 0 [S, now, bu, le, mo, T, wtF (dc S) now] = S1 := eS.symm
   have m5 : leMv.ent.fn 5 [S, now, bu, le, mo, T, wtF (dc S) now] = T1 := eT.symm
   have n1 : leMv.ent.fn 1 [S, now, bu, le, mo, T, wtF (dc S) now] = now := rfl
   have n2 : leMv.ent.fn 2 [S, now, bu, le, mo, T, wtF (dc S) now] = bu := rfl
   have n3 : leMv.ent.fn 3 [S, now, bu, le, mo, T, wtF (dc S) now] = le := rfl
   have n4 : leMv.ent.fn 4 [S, now, bu, le, mo, T, wtF (dc S) now] = mo := rfl
   have yl : leTi.ent.pre [S1, now, bu, le, mo, T1, k + 1] := ⟨⟨Q', w - 1, by
    show WOK now bu le (dc S1) (dc T1) _ _
    rw [dS, dT]; exact m1⟩, by show 0 <= k + 1; omega, by show k + 1 <= bu; omega⟩
   have hr : mvR [S, now, bu, le, mo, T, k] = ((mvR [S1, now, bu, le, mo, T1, k + 1]).1, (mvR [S1, now, bu, le, mo, T1, k + 1]).2 + 1) := by
    have hs : mvR [S1, now, bu, le, mo, T1, k + 1] = mvN now (nTi [S, now, bu, le, mo, T, k + 1]) (mvW now (dc S, dc T)) := by
     show mvN now _ (dc S1, dc T1) = _
     rw [dS, dT]; rfl
    rw [hs]; unfold mvR; rw [en]; exact if_neg hz
   obtain ⟨R, hR⟩ : ∃ R, R = mvR [S1, now, bu, le, mo, T1, k + 1] := ⟨_, rfl⟩
   have hnn : 0 <= R.2 := by rw [hR]; exact Nv _ _
   have hle : R.2 <= (bu - (k + 1)).toNat := by rw [hR]; exact Ql _ _
   have hst : R.2 = 0 -> R.1 = (dc S1, dc T1) := fun h => by rw [hR] at h ⊢; exact Qm h
   have q0 : leTi.ent.fn 0 [S1, now, bu, le, mo, T1, k + 1] = cd R.1.1 := by
    show (if (mvR [S1, now, bu, le, mo, T1, k + 1]).2 = 0 then S1 else cd (mvR [S1, now, bu, le, mo, T1, k + 1]).1.1) = _
    rw [<- hR]
    by_cases hc : R.2 = 0
    ·rw [if_pos hc, hst hc, dS, eS]
    ·rw [if_neg hc]
   have q5 : leTi.ent.fn 5 [S1, now, bu, le, mo, T1, k + 1] = cd R.1.2 := by
    show (if (mvR [S1, now, bu, le, mo, T1, k + 1]).2 = 0 then T1 else cd (mvR [S1, now, bu, le, mo, T1, k + 1]).1.2) = _
    rw [<- hR]
    by_cases hc : R.2 = 0
    ·rw [if_pos hc, hst hc, dT, eT]
    ·rw [if_neg hc]
   have q6 : leTi.ent.fn 6 [S1, now, bu, le, mo, T1, k + 1] = k + 1 + R.2 := by
    show k + 1 + (mvR [S1, now, bu, le, mo, T1, k + 1]).2 = _
    rw [<- hR]
   have q1 : leTi.ent.fn 1 [S1, now, bu, le, mo, T1, k + 1] = now := rfl
   have q2 : leTi.ent.fn 2 [S1, now, bu, le, mo, T1, k + 1] = bu := rfl
   have q3 : leTi.ent.fn 3 [S1, now, bu, le, mo, T1, k + 1] = le := rfl
   have q4 : leTi.ent.fn 4 [S1, now, bu, le, mo, T1, k + 1] = mo := rfl
   rw [<- hR] at hr
   have hr0 : ¬ (R.2 + 1 = 0) := by omega
   have w6 : IntKind.i64.wrap (k + 1 + R.2) = k + 1 + R.2 := i64w (by omega) (by omega)
   have ymu : muTi [S1, now, bu, le, mo, T1, k + 1] < muTi [S, now, bu, le, mo, T, k] := by
    show nTi _ < nTi _
    rw [en]; exact Nat.lt_succ_self _
   refine ⟨?_, ?_, ?_, ?_, ?_, ?_, ?_, ?_, trivial⟩
   all_goals simp (disch := omega) only [KN, Dd, Hc, IH, De, Df, Dg, Dh, Di, Dj, BS, Nu, e1, fnTi, hr, hr0, ewA, ewL, preC, binI, dvI, shI, cmpB, env, bi, List.headD, List.tail, List.map, Nat.reduceAdd, ewB, ewM, if_true, if_false, implies_true, forall_const, ne_eq, reduceCtorEq, Int.reduceEq, Int.reduceLT, Int.reduceLE, Int.reduceToNat, Int.reduceAdd, Int.reduceSub, Int.reduceMul, Int.reduceNeg, Int.reduceBEq, Nat.reduceLT, Nat.reduceEqDiff, hSS, h1, h2, h3, h4, h6, hk, f51, hz, y, ym, wz, w1, m0, n1, n2, n3, n4, m5, yl, q0, q1, q2, q3, q4, q5, q6, w6]
   all_goals (first | exact Nat.lt_of_lt_of_le ymu hmu | omega)
 ·have hr : mvR [S, now, bu, le, mo, T, k] = ((dc S, dc T), 0) := by
   unfold mvR
   rw [show nTi [S, now, bu, le, mo, T, k] = 0 by show (bu - k).toNat = 0; omega]; rfl
  refine ⟨?_, ?_, ?_, ?_, ?_, ?_, ?_, ?_, trivial⟩
  all_goals simp (disch := omega) only [KN, Dd, Hc, IH, De, Df, Dg, Dh, Di, Dj, BS, Nu, e1, fnTi, hr, ewA, ewL, preC, binI, dvI, shI, cmpB, env, bi, List.headD, List.tail, List.map, Nat.reduceAdd, ewB, ewM, if_true, if_false, implies_true, forall_const, ne_eq, reduceCtorEq, Int.reduceEq, Int.reduceLT, Int.reduceLE, Int.reduceToNat, Int.reduceAdd, Int.reduceSub, Int.reduceMul, Int.reduceNeg, Int.reduceBEq, Nat.reduceLT, Nat.reduceEqDiff, hSS, h1, h2, h3, h4, h6, hk, f51, y]
  all_goals omega
theorem Qn {now : Int} : ∀ {n : Nat} {p : RL × RL}, (tkN now n p).2 = [] -> (tkN now n p).1 = p
 | 0, _, _ => rfl
 | n + 1, p, h => by
   by_cases hz : 0 < gC p.1 2048 2
   ·simp only [tkN, if_pos hz] at h
    exact absurd h (by simp)
   ·simp only [tkN, if_neg hz]
theorem KO {now bu : Int} : ∀ (n : Nat) (p : RL × RL) (Q : Nat -> List Nat) (le w : Int), WOK now bu le p.1 p.2 Q w ->
 ∃ Q', WOK now bu (le - ((tkN now n p).2.length : Int)) (tkN now n p).1.1 (tkN now n p).1.2 Q' w /\ (tkN now n p).2 = ((Q 2048).take n).map (fun i : Nat => [(i : Int)]) /\ Q' 2048 = (Q 2048).drop n /\
   (tkN now n p).1.2.length = p.2.length /\ (∀ y, y ∉ (Q 2048).take n -> gC (tkN now n p).1.2 y 0 = gC p.2 y 0 /\ gC (tkN now n p).1.2 y 1 = gC p.2 y 1 /\ gC (tkN now n p).1.2 y 4 = gC p.2 y 4) /\
   (∀ y ∈ (Q 2048).take n, gC (tkN now n p).1.2 y 4 = 0)
 | 0, p, Q, le, w, h => ⟨Q, by simpa [tkN] using h, by simp [tkN], by simp, rfl, fun _ _ => ⟨rfl, rfl, rfl⟩, by simp⟩
 | n + 1, p, Q, le, w, h => by
   obtain ⟨b0, _, b2⟩ := h.lk.hd 2048 (by decide)
   cases hq : Q 2048 with
   | nil =>
     have e : tkN now (n + 1) p = (p, []) := if_neg (by rw [b2, hq]; decide)
     rw [e]
     exact ⟨Q, by simpa using h, by simp, by simpa using hq, rfl, fun _ _ => ⟨rfl, rfl, rfl⟩, by simp⟩
   | cons i r =>
     have hm : i ∈ Q 2048 := by rw [hq]; simp
     have hi := h.lk.qc _ i hm
     obtain ⟨o1, o2⟩ := h.out _ i hm
     have hb : gC p.1 2048 0 - 1 = (i : Int) := by rw [b0, hq]; show (i : Int) + 1 - 1 = _; omega
     have hz : 0 < gC p.1 2048 2 := by rw [b2, hq]; simp
     have en : ((i : Int)).toNat = i := by omega
     obtain ⟨A, B, g1, k1, k2, k3, k4⟩ := h.drop hi o1
     rw [o2] at g1
     have hnd := h.lk.nd 2048
     have hA : A = [] := by
      cases A with
      | nil => rfl
      | cons a A' =>
        exfalso
        rw [hq] at g1
        have ea : i = a := by injection g1
        have hm2 : r = A' ++ i :: B := by injection g1
        rw [hq, hm2] at hnd
        exact (List.nodup_cons.1 hnd).1 (by simp)
     subst hA
     have hB : r = B := by rw [hq] at g1; injection g1
     subst hB
     have e : tkN now (n + 1) p = ((tkN now n (dpW now p i)).1, [(i : Int)] :: (tkN now n (dpW now p i)).2) := by
      show (if 0 < gC p.1 2048 2 then _ else _) = _
      rw [if_pos hz, hb, en]
     obtain ⟨Q', q1, q2, q3, q4, q5, q6⟩ := KO n (dpW now p i) (uQ Q (locI now p.2 i).toNat ([] ++ r)) (le - 1) w k1
     have eu : uQ Q (locI now p.2 i).toNat ([] ++ r) 2048 = r := by simp [uQ, o2]
     rw [eu] at q2 q3 q5 q6
     rw [e]
     have hir : i ∉ r := by rw [hq] at hnd; exact (List.nodup_cons.1 hnd).1
     refine ⟨Q', ?_, ?_, q3, q4.trans k2, ?_, ?_⟩
     ·show WOK now bu (le - (([(i : Int)] :: (tkN now n (dpW now p i)).2).length : Int)) _ _ _ _
      rw [show le - (([(i : Int)] :: (tkN now n (dpW now p i)).2).length : Int) = le - 1 - ((tkN now n (dpW now p i)).2.length : Int) by simp only [List.length_cons]; omega]
      exact q1
     ·show [(i : Int)] :: _ = _
      rw [q2]; rfl
     ·intro y hy
      have hy' : y ≠ i /\ y ∉ r.take n := by simpa [List.take_succ_cons] using hy
      obtain ⟨u0, u1, u4⟩ := q5 y hy'.2
      obtain ⟨v0, v1, v4⟩ := k3 y hy'.1
      exact ⟨u0.trans v0, u1.trans v1, u4.trans v4⟩
     ·intro y hy
      have hy' : y = i \/ y ∈ r.take n := by simpa [List.take_succ_cons] using hy
      by_cases hc : y ∈ r.take n
      ·exact q6 y hc
      ·have hyi : y = i := hy'.resolve_right hc
       obtain ⟨_, _, u4⟩ := q5 y hc
       exact u4.trans (by rw [hyi]; exact k4)
theorem okTk : Bc Try.prog G0 41 pTk leTk := by
 refine cGok.loopP mixed muTk rfl ?_ Xe _ rfl _ rfl ?_
 ·exact ⟨_, _, _, Try.func41, rfl, rfl⟩
 intro n xs hf hp hmu
 obtain ⟨l, hl, hS, hF⟩ := UG leTk muTk n cG.l (by decide)
 show KM.tt (Tabs.F (enL leTk muTk n :: cG.l)) _ = true /\ Aq leTk.ent.fn _ (Tabs.F (enL leTk muTk n :: cG.l)) _ _ _ _
 rw [hl]
 have F48 := FC (k := 48) rfl (hF e48 (by rfl) (by decide) (by decide))
 have F9017 := FC (k := 9017) rfl hS
 have hSS := Jj F48 F9017
 obtain ⟨S, now, bu, le, mo, T, k, O, rfl⟩ := SF hf
 obtain ⟨h0, h1, h2, h3, h4, h5, h6, h7, _⟩ := hf
 simp only [Ad, A0] at h1 h2 h3 h4 h6
 obtain ⟨⟨Q, w, p1⟩, p2⟩ := hp
 replace p1 : WOK now bu le (dc S) (dc T) Q w := p1
 replace p2 : ((dc O).length : Int) + le <= 8192 := p2
 replace hmu : (k - ((dc O).length : Int)).toNat <= n := hmu
 have e1 : leTk.ent.fn = fnTk := rfl
 have hS : (dc S).length = 2049 := p1.lk.sw.1
 have hct := p1.ct
 have hle := p1.le_rng
 have c0 := DX p1.rS (i := 2048) (j := 0) (by omega) rfl
 have c2 := DX p1.rS (i := 2048) (j := 2) (by omega) rfl
 obtain ⟨b0, _, b2⟩ := p1.lk.hd 2048 (by decide)
 by_cases hk : ((dc O).length : Int) < k
 ·by_cases hz : 0 < gC (dc S) 2048 2
  ·obtain ⟨i, r, hq⟩ : ∃ i r, Q 2048 = i :: r := by
    cases hq : Q 2048 with
    | nil => rw [b2, hq] at hz; exact absurd hz (by decide)
    | cons i r => exact ⟨i, r, rfl⟩
   have hb : gC (dc S) 2048 0 = (i : Int) + 1 := by rw [b0, hq]; rfl
   have hm : i ∈ Q 2048 := by rw [hq]; simp
   have hi := p1.lk.qc _ i hm
   obtain ⟨o1, o2⟩ := p1.out _ i hm
   have en : ((i : Int)).toNat = i := by omega
   have eb : ((i : Int) + 1 - 1) = (i : Int) := by omega
   have wk : IntKind.i64.wrap (i : Int) = (i : Int) := i64w (by omega) (by omega)
   have y := y48 (mo := mo) (i := (i : Int)) p1 (by omega) (by rw [en]; omega)
   have hpos : 1 <= le := by
    have e := p1.ln
    have := Lo (p := fun i => decide (0 < gC (dc T) i 4)) hi (decide_eq_true o1)
    rw [e]; unfold cntD; omega
   have w3 : IntKind.i64.wrap (le - 1) = le - 1 := i64w (by omega) (by omega)
   obtain ⟨A, B, _, k1, k2, k3, k4⟩ := p1.drop (i := i) hi o1
   obtain ⟨S1, eS⟩ : ∃ S1, S1 = cd (dpW now (dc S, dc T) i).1 := ⟨_, rfl⟩
   obtain ⟨T1, eT⟩ : ∃ T1, T1 = cd (dpW now (dc S, dc T) i).2 := ⟨_, rfl⟩
   obtain ⟨O1, eO⟩ : ∃ O1, O1 = cd (dc O ++ [[(i : Int)]]) := ⟨_, rfl⟩
   have dS : dc S1 = (dpW now (dc S, dc T) i).1 := by rw [eS, Ac]
   have dT : dc T1 = (dpW now (dc S, dc T) i).2 := by rw [eT, Ac]
   have dO : dc O1 = dc O ++ [[(i : Int)]] := by rw [eO, Ac]
   have lO : (dc O1).length = (dc O).length + 1 := by rw [dO]; simp
   have yl : leTk.ent.pre [S1, now, bu, le - 1, mo, T1, k, O1] := ⟨⟨_, w, by
    show WOK now bu (le - 1) (dc S1) (dc T1) _ _
    rw [dS, dT]; exact k1⟩, by show ((dc O1).length : Int) + (le - 1) <= 8192; omega⟩
   have eN : nTk [S, now, bu, le, mo, T, k, O] = nTk [S1, now, bu, le - 1, mo, T1, k, O1] + 1 := by
    show (k - ((dc O).length : Int)).toNat = (k - ((dc O1).length : Int)).toNat + 1
    omega
   have hr : tkR [S, now, bu, le, mo, T, k, O] = ((tkR [S1, now, bu, le - 1, mo, T1, k, O1]).1, [(i : Int)] :: (tkR [S1, now, bu, le - 1, mo, T1, k, O1]).2) := by
    have hs : tkR [S1, now, bu, le - 1, mo, T1, k, O1] = tkN now (nTk [S1, now, bu, le - 1, mo, T1, k, O1]) (dpW now (dc S, dc T) i) := by
     show tkN now _ (dc S1, dc T1) = _
     rw [dS, dT]
    rw [hs]; unfold tkR; rw [eN]
    refine (if_pos hz).trans ?_
    show ((tkN now _ (dpW now (dc S, dc T) (gC (dc S) 2048 0 - 1).toNat)).1, [gC (dc S) 2048 0 - 1] :: (tkN now _ (dpW now (dc S, dc T) (gC (dc S) 2048 0 - 1).toNat)).2) = _
    rw [hb, eb, en]
   obtain ⟨R, hR⟩ : ∃ R, R = tkR [S1, now, bu, le - 1, mo, T1, k, O1] := ⟨_, rfl⟩
   have hst : R.2 = [] -> R.1 = (dc S1, dc T1) := fun h => by rw [hR] at h ⊢; exact Qn h
   have q0 : leTk.ent.fn 0 [S1, now, bu, le - 1, mo, T1, k, O1] = cd R.1.1 := by
    show (if (tkR [S1, now, bu, le - 1, mo, T1, k, O1]).2 = [] then S1 else cd (tkR [S1, now, bu, le - 1, mo, T1, k, O1]).1.1) = _
    rw [<- hR]
    by_cases hc : R.2 = []
    ·rw [if_pos hc, hst hc, dS, eS]
    ·rw [if_neg hc]
   have q5 : leTk.ent.fn 5 [S1, now, bu, le - 1, mo, T1, k, O1] = cd R.1.2 := by
    show (if (tkR [S1, now, bu, le - 1, mo, T1, k, O1]).2 = [] then T1 else cd (tkR [S1, now, bu, le - 1, mo, T1, k, O1]).1.2) = _
    rw [<- hR]
    by_cases hc : R.2 = []
    ·rw [if_pos hc, hst hc, dT, eT]
    ·rw [if_neg hc]
   have q6 : leTk.ent.fn 6 [S1, now, bu, le - 1, mo, T1, k, O1] = cd (dc O ++ [(i : Int)] :: R.2) := by
    show (if (tkR [S1, now, bu, le - 1, mo, T1, k, O1]).2 = [] then O1 else cd (dc O1 ++ (tkR [S1, now, bu, le - 1, mo, T1, k, O1]).2)) = _
    rw [<- hR]
    by_cases hc : R.2 = []
    ·rw [if_pos hc, hc, eO]
    ·rw [if_neg hc, dO]; simp
   have q3 : leTk.ent.fn 3 [S1, now, bu, le - 1, mo, T1, k, O1] = le - 1 - (R.2.length : Int) := by
    show le - 1 - ((tkR [S1, now, bu, le - 1, mo, T1, k, O1]).2.length : Int) = _
    rw [<- hR]
   have q1 : leTk.ent.fn 1 [S1, now, bu, le - 1, mo, T1, k, O1] = now := rfl
   have q2 : leTk.ent.fn 2 [S1, now, bu, le - 1, mo, T1, k, O1] = bu := rfl
   have q4 : leTk.ent.fn 4 [S1, now, bu, le - 1, mo, T1, k, O1] = mo := rfl
   have hRl : (R.2.length : Int) <= le - 1 := by
    obtain ⟨_, t1, _⟩ := KO (nTk [S1, now, bu, le - 1, mo, T1, k, O1]) (dc S1, dc T1) _ (le - 1) w (by rw [dS, dT]; exact k1)
    have := t1.le_rng.1
    have e : R.2 = (tkN now (nTk [S1, now, bu, le - 1, mo, T1, k, O1]) (dc S1, dc T1)).2 := by rw [hR]; rfl
    rw [e]; omega
   have w6 : IntKind.i64.wrap (le - 1 - (R.2.length : Int)) = le - 1 - (R.2.length : Int) := i64w (by omega) (by omega)
   rw [<- hR] at hr
   have ymu : muTk [S1, now, bu, le - 1, mo, T1, k, O1] < muTk [S, now, bu, le, mo, T, k, O] := by
    show nTk _ < nTk _
    rw [eN]; exact Nat.lt_succ_self _
   refine ⟨?_, ?_, ?_, ?_, ?_, ?_, ?_, ?_, trivial⟩
   all_goals simp (disch := omega) only [KM, Hb, BK, C6, Cs, C7, C8, C9, Da, Db, Dc, Nt, e1, fnTk, hr, ewA, ewL, preC, binI, dvI, shI, cmpB, env, bi, List.headD, List.tail, List.map, Nat.reduceAdd, ewB, ewM, if_true, if_false, implies_true, forall_const, ne_eq, reduceCtorEq, Int.reduceEq, Int.reduceLT, Int.reduceLE, Int.reduceToNat, Int.reduceAdd, Int.reduceSub, Int.reduceMul, Int.reduceNeg, Int.reduceBEq, Nat.reduceLT, Nat.reduceEqDiff, hSS, h1, h2, h3, h4, h6, hk, hz, AX, hS, c0, c2, hb, eb, en, wk, y, Pi, Pj, Pk, Pm, Pn, Po, <- eS, <- eT, <- eO, w3, yl, q0, q1, q2, q3, q4, q5, q6, w6]
   ·exact ⟨⟨by decide, ⟨by decide, by omega⟩, by decide⟩, Nat.lt_of_lt_of_le ymu hmu⟩
   ·rw [List.length_cons, i64w (by omega) (by omega)]; omega
  ·have hr : tkR [S, now, bu, le, mo, T, k, O] = ((dc S, dc T), []) := by
    unfold tkR
    rw [show nTk [S, now, bu, le, mo, T, k, O] = (nTk [S, now, bu, le, mo, T, k, O] - 1) + 1 by show (k - ((dc O).length : Int)).toNat = (k - ((dc O).length : Int)).toNat - 1 + 1; omega]
    exact if_neg hz
   refine ⟨?_, ?_, ?_, ?_, ?_, ?_, ?_, ?_, trivial⟩
   all_goals simp (disch := omega) only [KM, Hb, BK, C6, Cs, C7, C8, C9, Da, Db, Dc, Nt, e1, fnTk, hr, ewA, ewL, preC, binI, dvI, shI, cmpB, env, bi, List.headD, List.tail, List.map, Nat.reduceAdd, ewB, ewM, if_true, if_false, implies_true, forall_const, ne_eq, reduceCtorEq, Int.reduceEq, Int.reduceLT, Int.reduceLE, Int.reduceToNat, Int.reduceAdd, Int.reduceSub, Int.reduceMul, Int.reduceNeg, Int.reduceBEq, Nat.reduceLT, Nat.reduceEqDiff, hSS, h1, h2, h3, h4, h6, hk, hz, AX, hS, c0, c2]
   ·decide
   ·show IntKind.i64.wrap (le - 0) = le
    rw [show le - 0 = le by omega]; exact h3
 ·have hr : tkR [S, now, bu, le, mo, T, k, O] = ((dc S, dc T), []) := by
   unfold tkR
   rw [show nTk [S, now, bu, le, mo, T, k, O] = 0 by show (k - ((dc O).length : Int)).toNat = 0; omega]; rfl
  refine ⟨?_, ?_, ?_, ?_, ?_, ?_, ?_, ?_, trivial⟩
  all_goals simp (disch := omega) only [KM, Hb, BK, C6, Cs, C7, C8, C9, Da, Db, Dc, Nt, e1, fnTk, hr, ewA, ewL, preC, binI, dvI, shI, cmpB, env, bi, List.headD, List.tail, List.map, Nat.reduceAdd, ewB, ewM, if_true, if_false, implies_true, forall_const, ne_eq, reduceCtorEq, Int.reduceEq, Int.reduceLT, Int.reduceLE, Int.reduceToNat, Int.reduceAdd, Int.reduceSub, Int.reduceMul, Int.reduceNeg, Int.reduceBEq, Nat.reduceLT, Nat.reduceEqDiff, hSS, h1, h2, h3, h4, h6, hk, AX, hS, c0, c2]
  ·show IntKind.i64.wrap (le - 0) = le
   rw [show le - 0 = le by omega]; exact h3
def jnZ (xs : List Int) : List Int := [env xs 0, env xs 1 + 1, env xs 2, env xs 3, env xs 4, env xs 5, (env xs 1 + 1) % 512]
def jnY (xs : List Int) : List Int := [fn50 0 (jnZ xs), env xs 1 + 1, env xs 2, env xs 3, env xs 4, fn50 5 (jnZ xs), 0]
def fn15 (j : Nat) (xs : List Int) : Int := match j with
 | 0 => if env xs 1 = 1099511627776 then env xs 0 else fnTi 0 (jnY xs)
 | 1 => nowT (env xs 1)
 | 2 => env xs 2
 | 3 => env xs 3
 | 4 => if env xs 1 = 1099511627776 then env xs 4 else env xs 4 + fnTi 6 (jnY xs)
 | 5 => if env xs 1 = 1099511627776 then env xs 5 else fnTi 5 (jnY xs)
 | _ => if env xs 1 = 1099511627776 then 0 else fnTi 6 (jnY xs)
def e15 : Ent := ⟨15, 39, [wsh], [wob], [], .tup [i64, .lt kJ 0], fn15, WX⟩
def tkY (xs : List Int) : List Int := [env xs 0, env xs 1, env xs 2, env xs 3, env xs 4, env xs 5, env xs 6, cd []]
def fn17 (j : Nat) (xs : List Int) : Int := match j with
 | 0 => if env xs 6 < 0 then env xs 0 else fnTk 0 (tkY xs)
 | 1 => env xs 1
 | 2 => env xs 2
 | 3 => if env xs 6 < 0 then env xs 3 else fnTk 3 (tkY xs)
 | 4 => env xs 4
 | 5 => if env xs 6 < 0 then env xs 5 else fnTk 5 (tkY xs)
 | 6 => if env xs 6 < 0 then cd [] else fnTk 6 (tkY xs)
 | _ => if env xs 6 < 0 then 2 else 0
def e17 : Ent := ⟨17, 41, [wsh, i64], [wob], [], .tup [lio, i64], fn17, WX⟩
def cH : Ctx := ⟨[e46, e50], [(41, pTk, leTk), (39, pTi, leTi)]⟩
def JC : E := (.and (.and (.app .b 46 1000000 [(vX 0), (vI 1), (vI 2), (vI 3), (vI 4), (vX 5)]) (.or (.cmp .lss (vI 6) (lI 0)) (.app .b 9017 1000000 [(vX 0), (vI 1), (vI 2), (vI 3), (vI 4), (vX 5), (vI 6), (aX 0 2 [])]))) (.and (.ite (.cmp .lss (vI 6) (lI 0)) (.cmp .lss (vI 6) (lI 0)) (.not (.cmp .lss (vI 6) (lI 0)))) (.or (.cmp .lss (vI 6) (lI 0)) (.not (.cmp .lss (vI 6) (lI 0))))))
def Ls : List E := [(.ite (.cmp .lss (vI 6) (lI 0)) (vX 0) (aX 9017 0 [(vX 0), (vI 1), (vI 2), (vI 3), (vI 4), (vX 5), (vI 6), (aX 0 2 [])])), (.ite (.cmp .lss (vI 6) (lI 0)) (vI 1) (aI 9017 1 [(vX 0), (vI 1), (vI 2), (vI 3), (vI 4), (vX 5), (vI 6), (aX 0 2 [])])), (.ite (.cmp .lss (vI 6) (lI 0)) (vI 2) (aI 9017 2 [(vX 0), (vI 1), (vI 2), (vI 3), (vI 4), (vX 5), (vI 6), (aX 0 2 [])])), (.ite (.cmp .lss (vI 6) (lI 0)) (vI 3) (aI 9017 3 [(vX 0), (vI 1), (vI 2), (vI 3), (vI 4), (vX 5), (vI 6), (aX 0 2 [])])), (.ite (.cmp .lss (vI 6) (lI 0)) (vI 4) (aI 9017 4 [(vX 0), (vI 1), (vI 2), (vI 3), (vI 4), (vX 5), (vI 6), (aX 0 2 [])])), (.ite (.cmp .lss (vI 6) (lI 0)) (vX 5) (aX 9017 5 [(vX 0), (vI 1), (vI 2), (vI 3), (vI 4), (vX 5), (vI 6), (aX 0 2 [])])), (.ite (.cmp .lss (vI 6) (lI 0)) (aX 0 2 []) (aX 9017 6 [(vX 0), (vI 1), (vI 2), (vI 3), (vI 4), (vX 5), (vI 6), (aX 0 2 [])])), (.ite (.cmp .lss (vI 6) (lI 0)) (lI 2) (lI 0))]
theorem SX : evE Try.prog G0 (Af cH.fs) (ltOf cH.ls) 40 10 e17 = some (JC, Ls) := by kernel_rfl
def Ek : E := (.dv .rem .i64 (.bin .add .i64 (vI 1) (lI 1)) 512)
def EL : E := (aX 50 0 [(vX 0), (.bin .add .i64 (vI 1) (lI 1)), (vI 2), (vI 3), (vI 4), (vX 5), Ek])
def EM : E := (aI 50 1 [(vX 0), (.bin .add .i64 (vI 1) (lI 1)), (vI 2), (vI 3), (vI 4), (vX 5), Ek])
def EN : E := (aI 50 2 [(vX 0), (.bin .add .i64 (vI 1) (lI 1)), (vI 2), (vI 3), (vI 4), (vX 5), Ek])
def EO : E := (aI 50 3 [(vX 0), (.bin .add .i64 (vI 1) (lI 1)), (vI 2), (vI 3), (vI 4), (vX 5), Ek])
def EP : E := (aI 50 4 [(vX 0), (.bin .add .i64 (vI 1) (lI 1)), (vI 2), (vI 3), (vI 4), (vX 5), Ek])
def EQ : E := (aX 50 5 [(vX 0), (.bin .add .i64 (vI 1) (lI 1)), (vI 2), (vI 3), (vI 4), (vX 5), Ek])
def Nw : E := (aI 9015 6 [EL, EM, EN, EO, EP, EQ, (lI 0)])
def Pp : E := (.and (.and (.app .b 46 1000000 [(vX 0), (vI 1), (vI 2), (vI 3), (vI 4), (vX 5)]) (.or (.cmp .eql (vI 1) (lI 1099511627776)) (.and (.and (.and (.cmp .geq Ek (lI 0)) (.cmp .lss Ek (lI 512))) (.app .b 50 1000000 [(vX 0), (.bin .add .i64 (vI 1) (lI 1)), (vI 2), (vI 3), (vI 4), (vX 5), Ek])) (.app .b 9015 1000000 [EL, EM, EN, EO, EP, EQ, (lI 0)])))) (.ite (.cmp .eql (vI 1) (lI 1099511627776)) (.cmp .eql (vI 1) (lI 1099511627776)) (.not (.cmp .eql (vI 1) (lI 1099511627776)))))
def SY : List E := [(.ite (.cmp .eql (vI 1) (lI 1099511627776)) (vX 0) (aX 9015 0 [EL, EM, EN, EO, EP, EQ, (lI 0)])), (.ite (.cmp .eql (vI 1) (lI 1099511627776)) (vI 1) (aI 9015 1 [EL, EM, EN, EO, EP, EQ, (lI 0)])), (.ite (.cmp .eql (vI 1) (lI 1099511627776)) (vI 2) (aI 9015 2 [EL, EM, EN, EO, EP, EQ, (lI 0)])), (.ite (.cmp .eql (vI 1) (lI 1099511627776)) (vI 3) (aI 9015 3 [EL, EM, EN, EO, EP, EQ, (lI 0)])), (.ite (.cmp .eql (vI 1) (lI 1099511627776)) (vI 4) (.bin .add .i64 (aI 9015 4 [EL, EM, EN, EO, EP, EQ, (lI 0)]) Nw)), (.ite (.cmp .eql (vI 1) (lI 1099511627776)) (vX 5) (aX 9015 5 [EL, EM, EN, EO, EP, EQ, (lI 0)])), (.ite (.cmp .eql (vI 1) (lI 1099511627776)) (lI 0) Nw)]
theorem ev_15 : evE Try.prog G0 (Af cH.fs) (ltOf cH.ls) 40 10 e15 = some (Pp, SY) := by kernel_rfl
theorem cHok : cH.OK Try.prog G0 := Ctx.OK.addL (c := ⟨[e46, e50], [(39, pTi, leTi)]⟩) (Ctx.OK.addL (c := ⟨[e46, e50], []⟩) ((Ctx.OK.nil.addF ok50 rfl).addF ok46 rfl) okTi rfl) okTk rfl
theorem e17fn : leTk.ent.fn = fnTk := rfl
theorem Xi : leTk.ent.pre = preTk := rfl
theorem e15fn : leTi.ent.fn = fnTi := rfl
theorem e50fn : e50.fn = fn50 := rfl
theorem ok17 : EntryOK Try.prog G0 e17 := cHok.entryP mixed SX _ rfl _ rfl fun xs hf hp => by
 obtain ⟨l, hl, hF⟩ := AN (l0 := cH.l)
 show JC.tt cH.l.F _ = true /\ Aq e17.fn _ cH.l.F _ _ _ _
 rw [hl]
 have F46 := FC (k := 46) rfl (hF e46 (by rfl) (by decide))
 have F9017 := FC (k := 9017) rfl (hF leTk.ent (by rfl) (by decide))
 have hSS := Jj F46 F9017
 obtain ⟨S, now, bu, le, mo, T, n, rfl⟩ := Gj hf
 obtain ⟨h0, h1, h2, h3, h4, h5, h6, _⟩ := hf
 simp only [Ad, A0] at h1 h2 h3 h4 h6
 obtain ⟨⟨Q, p1⟩, p2, p3⟩ := hp
 replace p1 : WOK now bu le (dc S) (dc T) Q (bu * (255 - now % 256)) := p1
 have q1 : 0 < ((dc T).length : Int) /\ ((dc T).length : Int) <= 4096 := ⟨by have := p1.ct; omega, by have := p1.ct; omega⟩
 have hle := p1.le_rng
 by_cases hn : n < 0
 ·refine ⟨?_, ?_, ?_, ?_, ?_, ?_, ?_, ?_, ?_, trivial⟩
  all_goals simp (disch := omega) only [JC, Ls, e17, fn17, ewA, ewL, preC, binI, dvI, shI, cmpB, env, bi, List.headD, List.tail, List.map, Nat.reduceAdd, ewB, ewM, if_true, if_false, implies_true, forall_const, ne_eq, reduceCtorEq, Int.reduceEq, Int.reduceLT, Int.reduceLE, Int.reduceToNat, Int.reduceAdd, Int.reduceSub, Int.reduceMul, Int.reduceNeg, Int.reduceBEq, Nat.reduceLT, Nat.reduceEqDiff, hSS, h1, h2, h3, h4, h6, y46 q1, hn]
 ·have y : preTk [S, now, bu, le, mo, T, n, cd []] := ⟨⟨Q, _, p1⟩, by show ((dc (cd [])).length : Int) + le <= 8192; rw [Ac]; show (0 : Int) + le <= 8192; omega⟩
  have eY : tkY [S, now, bu, le, mo, T, n] = [S, now, bu, le, mo, T, n, cd []] := rfl
  have q1' : fnTk 1 [S, now, bu, le, mo, T, n, cd []] = now := rfl
  have q2 : fnTk 2 [S, now, bu, le, mo, T, n, cd []] = bu := rfl
  have q4 : fnTk 4 [S, now, bu, le, mo, T, n, cd []] = mo := rfl
  have w3 : IntKind.i64.wrap (fnTk 3 [S, now, bu, le, mo, T, n, cd []]) = fnTk 3 [S, now, bu, le, mo, T, n, cd []] := by
   obtain ⟨_, t1, _⟩ := KO (nTk [S, now, bu, le, mo, T, n, cd []]) (dc S, dc T) Q le _ p1
   have r := t1.le_rng
   have e : fnTk 3 [S, now, bu, le, mo, T, n, cd []] = le - ((tkN now (nTk [S, now, bu, le, mo, T, n, cd []]) (dc S, dc T)).2.length : Int) := rfl
   rw [e]
   exact i64w (by omega) (by omega)
  refine ⟨?_, ?_, ?_, ?_, ?_, ?_, ?_, ?_, ?_, trivial⟩
  all_goals simp (disch := omega) only [JC, Ls, e17, fn17, eY, e17fn, Xi, ewA, ewL, preC, binI, dvI, shI, cmpB, env, bi, List.headD, List.tail, List.map, Nat.reduceAdd, ewB, ewM, if_true, if_false, implies_true, forall_const, ne_eq, reduceCtorEq, Int.reduceEq, Int.reduceLT, Int.reduceLE, Int.reduceToNat, Int.reduceAdd, Int.reduceSub, Int.reduceMul, Int.reduceNeg, Int.reduceBEq, Nat.reduceLT, Nat.reduceEqDiff, hSS, h1, h2, h3, h4, h6, y46 q1, hn, y, q1', q2, q4, w3]
theorem ok15 : EntryOK Try.prog G0 e15 := cHok.entryP mixed ev_15 _ rfl _ rfl fun xs hf hp => by
 obtain ⟨l, hl, hF⟩ := AN (l0 := cH.l)
 show Pp.tt cH.l.F _ = true /\ Aq e15.fn _ cH.l.F _ _ _ _
 rw [hl]
 have F46 := FC (k := 46) rfl (hF e46 (by rfl) (by decide))
 have F50 := FC (k := 50) rfl (hF e50 (by rfl) (by decide))
 have F9015 := FC (k := 9015) rfl (hF leTi.ent (by rfl) (by decide))
 have hSS := Jj F46 (Jj F50 F9015)
 obtain ⟨S, now, bu, le, mo, T, rfl⟩ := No hf
 obtain ⟨h0, h1, h2, h3, h4, h5, _⟩ := hf
 simp only [Ad, A0] at h1 h2 h3 h4
 obtain ⟨⟨Q, p1⟩, p2, p3⟩ := hp
 replace p1 : WOK now bu le (dc S) (dc T) Q (bu * (255 - now % 256)) := p1
 have q1 : 0 < ((dc T).length : Int) /\ ((dc T).length : Int) <= 4096 := ⟨by have := p1.ct; omega, by have := p1.ct; omega⟩
 have hle := p1.le_rng
 have htm := p1.tm
 by_cases hM : now = 1099511627776
 ·refine ⟨?_, ?_, ?_, ?_, ?_, ?_, ?_, ?_, trivial⟩
  all_goals simp (disch := omega) only [Pp, Ek, EL, EM, EN, EO, EP, EQ, Nw, SY, e15, fn15, nowT, ewA, ewL, preC, binI, dvI, shI, cmpB, env, bi, List.headD, List.tail, List.map, Nat.reduceAdd, ewB, ewM, if_true, if_false, implies_true, forall_const, ne_eq, reduceCtorEq, Int.reduceEq, Int.reduceLT, Int.reduceLE, Int.reduceToNat, Int.reduceAdd, Int.reduceSub, Int.reduceMul, Int.reduceNeg, Int.reduceBEq, Nat.reduceLT, Nat.reduceEqDiff, hSS, h1, h2, h3, h4, y46 q1, hM]
 ·have w1 : IntKind.i64.wrap (now + 1) = now + 1 := i64w (by omega) (by omega)
  have eZ : jnZ [S, now, bu, le, mo, T] = [S, now + 1, bu, le, mo, T, (now + 1) % 512] := rfl
  obtain ⟨S1, eS⟩ : ∃ S1, S1 = fn50 0 [S, now + 1, bu, le, mo, T, (now + 1) % 512] := ⟨_, rfl⟩
  obtain ⟨T1, eT⟩ : ∃ T1, T1 = fn50 5 [S, now + 1, bu, le, mo, T, (now + 1) % 512] := ⟨_, rfl⟩
  have eY : jnY [S, now, bu, le, mo, T] = [S1, now + 1, bu, le, mo, T1, 0] := by rw [eS, eT]; rfl
  have em : (now + 1).tmod 512 = (now + 1) % 512 := Int.tmod_eq_emod_of_nonneg (by omega)
  obtain ⟨k, hk⟩ : ∃ k, k = ((now + 1) % 512).toNat := ⟨_, rfl⟩
  have dS : dc S1 = (if gC (dc S) k 2 = 0 then dc S else joinS (dc S) k) := by
   rw [eS]
   show dc (if gC (dc S) ((now + 1) % 512).toNat 2 = 0 then S else cd (joinS (dc S) ((now + 1) % 512).toNat)) = _
   rw [<- hk]
   split
   ·rfl
   ·exact Ac _
  have dT : dc T1 = (if gC (dc S) k 2 = 0 then dc T else joinT (dc T) (gC (dc S) k 0) (gC (dc S) 2048 1)) := by
   rw [eT]
   show dc (if gC (dc S) ((now + 1) % 512).toNat 2 = 0 then T else cd (joinT (dc T) (gC (dc S) ((now + 1) % 512).toNat 0) (gC (dc S) 2048 1))) = _
   rw [<- hk]
   split
   ·rfl
   ·exact Ac _
  have hb := p1.bg
  obtain ⟨j1, _, _⟩ := p1.join (by omega) hk
  rw [<- dS, <- dT] at j1
  have y50 : e50.pre [S, now + 1, bu, le, mo, T, (now + 1) % 512] := ⟨Q, SO p1, Int.emod_nonneg _ (by decide), by show (now + 1) % 512 < 2048; omega⟩
  have yT : leTi.ent.pre [S1, now + 1, bu, le, mo, T1, 0] := ⟨⟨_, _, j1⟩, Int.le_refl _, by show 0 <= bu; omega⟩
  have q1' : fnTi 1 [S1, now + 1, bu, le, mo, T1, 0] = now + 1 := rfl
  have q2 : fnTi 2 [S1, now + 1, bu, le, mo, T1, 0] = bu := rfl
  have q3 : fnTi 3 [S1, now + 1, bu, le, mo, T1, 0] = le := rfl
  have q4 : fnTi 4 [S1, now + 1, bu, le, mo, T1, 0] = mo := rfl
  have r6 : 0 <= fnTi 6 [S1, now + 1, bu, le, mo, T1, 0] /\ fnTi 6 [S1, now + 1, bu, le, mo, T1, 0] <= bu := by
   have e : fnTi 6 [S1, now + 1, bu, le, mo, T1, 0] = 0 + (mvN (now + 1) (bu - 0).toNat (dc S1, dc T1)).2 := rfl
   have := Nv (bu - 0).toNat (dc S1, dc T1) (now := now + 1)
   have := Ql (bu - 0).toNat (dc S1, dc T1) (now := now + 1)
   rw [e]; omega
  obtain ⟨g, hg⟩ : ∃ g, g = fnTi 6 [S1, now + 1, bu, le, mo, T1, 0] := ⟨_, rfl⟩
  rw [<- hg] at r6
  replace p2 : 0 <= mo := p2
  replace p3 : mo <= 1152921504606846976 := p3
  have w6 : IntKind.i64.wrap g = g := i64w (by omega) (by omega)
  have w7 : IntKind.i64.wrap (mo + g) = mo + g := i64w (by omega) (by omega)
  have k1 : fn50 1 [S, now + 1, bu, le, mo, T, (now + 1) % 512] = now + 1 := rfl
  have k2 : fn50 2 [S, now + 1, bu, le, mo, T, (now + 1) % 512] = bu := rfl
  have k3' : fn50 3 [S, now + 1, bu, le, mo, T, (now + 1) % 512] = le := rfl
  have k4 : fn50 4 [S, now + 1, bu, le, mo, T, (now + 1) % 512] = mo := rfl
  refine ⟨?_, ?_, ?_, ?_, ?_, ?_, ?_, ?_, trivial⟩
  all_goals simp (disch := omega) only [Pp, Ek, EL, EM, EN, EO, EP, EQ, Nw, SY, e15, fn15, nowT, eY, e15fn, e50fn, ewA, ewL, preC, binI, dvI, shI, cmpB, env, bi, List.headD, List.tail, List.map, Nat.reduceAdd, ewB, ewM, if_true, if_false, implies_true, forall_const, ne_eq, reduceCtorEq, Int.reduceEq, Int.reduceLT, Int.reduceLE, Int.reduceToNat, Int.reduceAdd, Int.reduceSub, Int.reduceMul, Int.reduceNeg, Int.reduceBEq, Nat.reduceLT, Nat.reduceEqDiff, hSS, h1, h2, h3, h4, y46 q1, hM, w1, em, y50, <- eS, <- eT, k1, k2, k3', k4, yT, q1', q2, q3, q4, <- hg, w6, w7]
  omega
def newW (now c b : Int) : Prop := (0 <= now /\ now <= 1099511627776) /\ (1 <= c /\ c <= 4096) /\ (1 <= b /\ b <= 4096) /\ c <= 256 * b
def S0 : RL := List.replicate 2049 [0, 0, 0]
def Tn (c : Int) : RL := List.replicate c.toNat [0, 0, 0, 0, 0]
def fn13 (j : Nat) (xs : List Int) : Int := match j with
 | 0 => cd S0
 | 1 => env xs 0
 | 2 => env xs 2
 | 3 => 0
 | 4 => 0
 | _ => cd (Tn (env xs 1))
def e13 : Ent := ⟨13, 33, [i64, i64, i64], [], [], .tup [wsh, .lt kJ 0], fn13, fun xs => newW (env xs 0) (env xs 1) (env xs 2)⟩
def cI : Ctx := ⟨[], []⟩
def Nx : E := (.or (.or (.or (.or (.or (.cmp .lss (vI 0) (lI 0)) (.cmp .gtr (vI 0) (lI 1099511627776))) (.cmp .lss (vI 1) (lI 1))) (.cmp .gtr (vI 1) (lI 4096))) (.cmp .lss (vI 2) (lI 1))) (.cmp .gtr (vI 2) (lI 4096)))
def Qo : E := (.cmp .lss (.bin .mul .i64 (lI 256) (vI 2)) (vI 1))
def Qp : E := (.or Nx Qo)
def Qq : E := (.not Qp)
def SZ : E := (.and (.or (.not (.and (.not Nx) (.not Qo))) (.and (.cmp .geq (vI 1) (lI 0)) (.cmp .leq (vI 1) (.lit .x 3518437208883)))) (.and (.and Qq (.cmp .eql (.ite Qp (.ite Nx (lI 2) (lI 180)) (lI 0)) (lI 0))) Qq))
def V4 : List E := [(aX 0 7 [(lI 2049), (lI 0), (lI 0), (lI 0)]), (vI 0), (vI 2), (lI 0), (lI 0), (aX 0 7 [(vI 1), (lI 0), (lI 0), (lI 0), (lI 0), (lI 0)])]
theorem ev_13 : evE Try.prog G0 (Af cI.fs) (ltOf cI.ls) 40 10 e13 = some (SZ, V4) := by kernel_rfl
theorem fits3 {k1 k2 k3 : K} {xs : List Int} (h : fits [k1, k2, k3] xs) : ∃ a b c, xs = [a, b, c] := by
 have := Ao h
 match xs, this with
 | [a, b, c], _ => exact ⟨a, b, c, rfl⟩
theorem cIok : cI.OK Try.prog G0 := Ctx.OK.nil
theorem ok13 : EntryOK Try.prog G0 e13 := cIok.entryP mixed ev_13 _ rfl _ rfl fun xs hf hp => by
 obtain ⟨l, hl, hF⟩ := AN (l0 := cI.l)
 show SZ.tt cI.l.F _ = true /\ Aq e13.fn _ cI.l.F _ _ _ _
 rw [hl]
 obtain ⟨now, c, b, rfl⟩ := fits3 hf
 obtain ⟨h0, h1, h2, _⟩ := hf
 simp only [Ad] at h0 h1 h2
 obtain ⟨⟨a1, a2⟩, ⟨b1, b2⟩, ⟨c1, c2⟩, d1⟩ := hp
 simp only [ewA, ewL, preC, binI, dvI, shI, cmpB, env, bi, List.headD, List.tail, List.map, Nat.reduceAdd] at a1 a2 b1 b2 c1 c2 d1
 have w1 : IntKind.i64.wrap (256 * b) = 256 * b := i64w (by omega) (by omega)
 refine ⟨?_, ?_, ?_, ?_, ?_, ?_, ?_, trivial⟩
 all_goals simp (disch := omega) only [SZ, Nx, Qo, Qp, Qq, V4, e13, fn13, S0, Tn, ewA, ewL, preC, binI, dvI, shI, cmpB, env, bi, List.headD, List.tail, List.map, Nat.reduceAdd, ewB, ewM, if_true, if_false, implies_true, forall_const, ne_eq, reduceCtorEq, Int.reduceEq, Int.reduceLT, Int.reduceLE, Int.reduceToNat, Int.reduceAdd, Int.reduceSub, Int.reduceMul, Int.reduceNeg, Int.reduceBEq, Nat.reduceLT, Nat.reduceEqDiff, h0, h1, h2, w1]
 rw [if_neg (by omega)]
 omega
theorem UX (n w k j : Nat) : gC (List.replicate n (List.replicate w 0)) k j = 0 := by
 unfold gC
 rw [List.getD_eq_getElem?_getD, List.getD_eq_getElem?_getD, List.getElem?_replicate]
 by_cases h : k < n
 ·rw [if_pos h, Option.getD_some, List.getElem?_replicate]
  by_cases h2 : j < w
  ·rw [if_pos h2]; rfl
  ·rw [if_neg h2]; rfl
 ·rw [if_neg h]; rfl
theorem S4 (k j : Nat) : gC S0 k j = 0 := UX 2049 3 k j
theorem Lt (c : Int) (k j : Nat) : gC (Tn c) k j = 0 := UX c.toNat 5 k j
theorem RF (n w : Nat) : Wid (List.replicate n (List.replicate w 0)) n w := by
 refine ⟨List.length_replicate, fun i hi => ?_⟩
 rw [List.getD_eq_getElem?_getD, List.getElem?_replicate, if_pos hi, Option.getD_some, List.length_replicate]
theorem WOK.new {now c b w : Int} (h : newW now c b) (hw : 0 <= w) : WOK now b 0 S0 (Tn c) (fun _ => []) w := by
 obtain ⟨h1, h2, h3, h4⟩ := h
 have hl : (Tn c).length = c.toNat := List.length_replicate
 refine ⟨h1, h3, ⟨by omega, by omega, by omega⟩, fun r hr => ?_, fun r hr => ?_, ⟨?_, RF 2049 3, fun k i hi => (absurd hi List.not_mem_nil), fun _ _ => rfl, fun _ => List.nodup_nil, fun k m i hi => (absurd hi List.not_mem_nil), fun k hk => ⟨S4 k 0, S4 k 1, S4 k 2⟩, fun k A i B hq => ?_⟩, fun i _ hi => ?_, fun k i hi => (absurd hi List.not_mem_nil), fun i _ => ?_, fun i _ hi => ?_, ?_, ?_⟩
 ·rw [(List.mem_replicate.1 hr).2]; exact ⟨rfl, rfl, rfl, trivial⟩
 ·rw [(List.mem_replicate.1 hr).2]; exact ⟨rfl, rfl, rfl, rfl, rfl, trivial⟩
 ·rw [hl]; exact RF c.toNat 5
 ·cases A <;> cases hq
 ·rw [Lt] at hi; omega
 ·rw [Lt]; omega
 ·rw [Lt] at hi; omega
 ·rw [show cntW now (Tn c) = 0 from Mc fun i _ => by
   unfold Bn
   rw [show decide (now < gC (Tn c) i 4) = false from decide_eq_false (by rw [Lt]; omega)]; rfl]
  exact hw
 ·rw [show cntD (Tn c) = 0 from Mc fun i _ => decide_eq_false (by rw [Lt]; omega)]; rfl
def cap8 : Int := 1099511627776
def lsI : Sh := .lst 3 (Row.ofKs intK) false
def fnL19 : Nat -> List Int -> Int
 | 0, xs => b2i ((dc (env xs 0)).drop (env xs 3).toNat == (dc (env xs 1)).drop (env xs 3).toNat)
 | _, _ => 0
def preL19 (xs : List Int) : Prop := env xs 2 = ((dc (env xs 0)).length : Int) /\ (dc (env xs 0)).length = (dc (env xs 1)).length /\ 0 <= env xs 3 /\ env xs 3 <= env xs 2 /\ env xs 2 < cap8 /\ rowsOK intK (dc (env xs 0)) /\ rowsOK intK (dc (env xs 1))
def le19 : LEnt := ⟨⟨9019, 999999, [lsI, lsI, .lt .b 0, i64, i64], [], [0, 1], .tup [.sc .b, .sc .b], fnL19, preL19⟩, [0, 1, 4, 12, 13], [4], [5] ++ (List.range 13).map (· + 13), [.ex 0, .ret], 26, [0, 1]⟩
def pre19 (xs : List Int) : Prop := ((dc (env xs 0)).length : Int) < cap8 /\ ((dc (env xs 1)).length : Int) < cap8 /\ rowsOK intK (dc (env xs 0)) /\ rowsOK intK (dc (env xs 1))
def e19 : Ent := ⟨19, 32, [lsI, lsI], [], [0, 1], .sc .b, fun _ xs => b2i (dc (env xs 0) == dc (env xs 1)), pre19⟩
def cL : Ctx := ⟨[], [(32, [true,true,false,true,false], le19)]⟩
def Fa : E := (.and (.cmp .geq (vI 3) (lI 0)) (.cmp .lss (vI 3) (aI 0 0 [(vX 0)])))
def Fb : E := (.cmp .neq (aI 0 1 [(vX 0), (vI 3), (.lit .x 0)]) (aI 0 1 [(vX 1), (vI 3), (.lit .x 0)]))
def Fc : E := (.and (.cmp .lss (vI 3) (vI 2)) (.not Fb))
def Fd : E := (.or (.not (.cmp .lss (vI 3) (vI 2))) (.and Fc (.app .b 9019 0 [(vX 0), (vX 1), (vI 2), (.bin .add .i64 (vI 3) (lI 1))])))
def Fe : E := (.app .b 9019 1 [(vX 0), (vX 1), (vI 2), (.bin .add .i64 (vI 3) (lI 1))])
def Qr : E := (.and (.or (.not (.cmp .lss (vI 3) (vI 2))) (.and Fa (.and Fa (.and (.cmp .geq (vI 3) (lI 0)) (.cmp .lss (vI 3) (aI 0 0 [(vX 1)])))))) (.or (.not Fc) (.app .b 9019 1000000 [(vX 0), (vX 1), (vI 2), (.bin .add .i64 (vI 3) (lI 1))])))
def KP : List E := [(.ite Fd (.lit .b 1) (.lit .b 0)), (.ite Fd (.and (.cmp .lss (vI 3) (vI 2)) Fe) (.and (.not (.and (.cmp .lss (vI 3) (vI 2)) Fb)) Fe))]
theorem Xj : evL Try.prog G0 (Af cI.fs) (evFn Try.prog G0 (Af cI.fs) (ltOf cI.ls) 40 10) 40 (subL cI.ls 32 [true,true,false,true,false]) le19 (BQ Try.prog 32 [true,true,false,true,false]) = some (Qr, KP) := by kernel_rfl
def II : E := (.cmp .neq (aI 0 0 [(vX 0)]) (aI 0 0 [(vX 1)]))
def JD : E := (.or II (.app .b 9019 1000000 [(vX 0), (vX 1), (aI 0 0 [(vX 0)]), (lI 0)]))
def Lu : List E := [(.and (.not II) (.or (.app .b 9019 0 [(vX 0), (vX 1), (aI 0 0 [(vX 0)]), (lI 0)]) (.app .b 9019 1 [(vX 0), (vX 1), (aI 0 0 [(vX 0)]), (lI 0)])))]
theorem S5 : evE Try.prog G0 (Af cL.fs) (ltOf cL.ls) 40 10 e19 = some (JD, Lu) := by kernel_rfl
theorem S6 {r : List Int} (h : fits intK r) : ∃ a, r = [a] /\ IntKind.i64.wrap a = a := by
 have := Ao h
 match r, this, h with
 | [a], _, h => exact ⟨a, rfl, h.1⟩
theorem lo19 : Bc Try.prog G0 32 [true,true,false,true,false] le19 := by
 refine cIok.loopP mixed (fun xs => (env xs 2 - env xs 3).toNat) rfl ?_ Xj _ rfl _ rfl ?_
 ·exact ⟨_, _, _, Try.func32, rfl, rfl⟩
 intro n xs hf hp hmu
 obtain ⟨l, hl, S, Sp, -⟩ := M4 le19 (fun xs => (env xs 2 - env xs 3).toNat) n cI.l (by decide)
 rw [hl]
 obtain ⟨c, d, m, i, rfl⟩ : ∃ c d m i, xs = [c, d, m, i] := by
  have := Ao hf
  match xs, this with
  | [c, d, m, i], _ => exact ⟨_, _, _, _, rfl⟩
 ·skip
  obtain ⟨h0, h1, h2, h3, _⟩ := hf
  simp only [Ad, A0] at h2 h3
  obtain ⟨p1, p2, p3, p4, p5, p6, p7⟩ := hp
  simp only [ewA, ewL, preC, binI, dvI, shI, cmpB, env, bi, List.headD, List.tail, List.map, Nat.reduceAdd] at p1 p2 p3 p4 p5 p6 p7 hmu
  unfold cap8 at p5
  have w0 : IntKind.i64.wrap 0 = 0 := i64w (by decide) (by decide)
  have w1 : IntKind.i64.wrap 1 = 1 := i64w (by decide) (by decide)
  have wc : IntKind.i64.wrap ((dc c).length : Int) = ((dc c).length : Int) := i64w (by omega) (by omega)
  have wd : IntKind.i64.wrap ((dc d).length : Int) = ((dc d).length : Int) := i64w (by omega) (by omega)
  have e1 : le19.ent.fn = fnL19 := rfl
  by_cases hlt : i < m
  ·have hs : IntKind.i64.wrap (i + 1) = i + 1 := i64w (by omega) (by omega)
   have row : ∀ x, rowsOK intK (dc x) -> (dc x).length = (dc c).length -> ∃ a, (dc x).getD i.toNat [] = [a] /\ IntKind.i64.wrap a = a /\ (dc x).drop i.toNat = [a] :: (dc x).drop (i + 1).toNat := fun x hx hlx => by
    have hl : i.toNat < (dc x).length := by omega
    obtain ⟨a, hab, ha⟩ := S6 (hx _ (List.getElem_mem hl))
    refine ⟨a, by simp [List.getD, hl, hab], ha, ?_⟩
    rw [List.drop_eq_getElem_cons hl, show (i + 1).toNat = i.toNat + 1 by omega, hab]
   obtain ⟨a, r1, a1, d1⟩ := row c p6 rfl
   obtain ⟨x, r2, x1, d2⟩ := row d p7 p2.symm
   have nS : i2b (K.b.norm (l.F 9019 1000000 [c, d, m, i + 1])) = true :=
    Sp _ ⟨⟨p1, p2, by show 0 <= i + 1; omega, by show i + 1 <= m; omega, by show m < cap8; unfold cap8; omega, p6, p7⟩, by show (m - (i + 1)).toNat < n; omega⟩
   have f0 : l.F 9019 0 [c, d, m, i + 1] = b2i ((dc c).drop (i + 1).toNat == (dc d).drop (i + 1).toNat) := S 0 rfl _
   have f1 : l.F 9019 1 [c, d, m, i + 1] = 0 := S 1 rfl _
   have b1' : decide (i >= 0) = true := by simp; omega
   have b2' : decide (i < ((dc c).length : Int)) = true := by simp; omega
   have b3' : decide (i < ((dc d).length : Int)) = true := by simp; omega
   refine ⟨?_, ?_, ?_, trivial⟩
   ·simp only [Qr, Fa, Fb, Fc, Fd, Fe, ewA, ewL, preC, binI, dvI, shI, cmpB, env, bi, List.headD, List.tail, List.map, Nat.reduceAdd, h2, h3, w0, w1, wc, wd, hs, r1, r2, a1, x1, nS, b1', b2', b3', hlt, decide_true]
    simp
   ·simp only [KP, Fa, Fb, Fc, Fd, Fe, ewA, ewL, preC, binI, dvI, shI, cmpB, env, bi, List.headD, List.tail, List.map, Nat.reduceAdd, h2, h3, w0, w1, wc, wd, hs, r1, r2, a1, x1, f0, hlt, decide_true, e1, fnL19, d1, d2]
    have hc : ([a] :: List.drop (i + 1).toNat (dc c) == [x] :: List.drop (i + 1).toNat (dc d)) = ((a == x) && List.drop (i + 1).toNat (dc c) == List.drop (i + 1).toNat (dc d)) := by
     simp [List.cons_beq_cons]
    rw [hc]
    simp only [bne]
    generalize (a == x) = p
    generalize (List.drop (i + 1).toNat (dc c) == List.drop (i + 1).toNat (dc d)) = q
    cases p <;> cases q <;> rfl
   ·simp only [KP, Fa, Fb, Fc, Fd, Fe, ewA, ewL, preC, binI, dvI, shI, cmpB, env, bi, List.headD, List.tail, List.map, Nat.reduceAdd, h2, h3, w0, w1, wc, wd, hs, r1, r2, a1, x1, f0, f1, hlt, decide_true, e1, fnL19]
    simp only [bne]
    generalize (a == x) = p
    generalize (List.drop (i + 1).toNat (dc c) == List.drop (i + 1).toNat (dc d)) = q
    cases p <;> cases q <;> rfl
  ·have hd1 : (dc c).drop i.toNat = [] := List.drop_of_length_le (by omega)
   have hd2 : (dc d).drop i.toNat = [] := List.drop_of_length_le (by omega)
   refine ⟨?_, ?_, ?_, trivial⟩
   ·simp only [Qr, Fa, Fb, Fc, Fd, Fe, ewA, ewL, preC, binI, dvI, shI, cmpB, env, bi, List.headD, List.tail, List.map, Nat.reduceAdd, h2, h3, hlt, decide_false]; simp
   ·simp only [KP, Fa, Fb, Fc, Fd, Fe, ewA, ewL, preC, binI, dvI, shI, cmpB, env, bi, List.headD, List.tail, List.map, Nat.reduceAdd, h2, h3, hlt, decide_false, e1, fnL19, hd1, hd2]; rfl
   ·simp only [KP, Fa, Fb, Fc, Fd, Fe, ewA, ewL, preC, binI, dvI, shI, cmpB, env, bi, List.headD, List.tail, List.map, Nat.reduceAdd, h2, h3, hlt, decide_false, e1, fnL19]; rfl
theorem ok19 : EntryOK Try.prog G0 e19 := (cIok.addL lo19 rfl).entryP mixed S5 _ rfl _ rfl fun xs hf hp => by
 obtain ⟨l, hl, hF⟩ := EU (l0 := cL.l)
 obtain ⟨S, Sp⟩ := hF le19.ent (by rfl) (by decide)
 show JD.tt cL.l.F _ = true /\ Aq _ _ cL.l.F _ _ _ _
 rw [hl]
 obtain ⟨c, d, rfl⟩ := UO (Ao hf)
 ·obtain ⟨p1, p2, p3, p4⟩ := hp
  simp only [ewA, ewL, preC, binI, dvI, shI, cmpB, env, bi, List.headD, List.tail, List.map, Nat.reduceAdd] at p1 p2 p3 p4
  unfold cap8 at p1 p2
  have w0 : IntKind.i64.wrap 0 = 0 := i64w (by decide) (by decide)
  have wc : IntKind.i64.wrap ((dc c).length : Int) = ((dc c).length : Int) := i64w (by omega) (by omega)
  have wd : IntKind.i64.wrap ((dc d).length : Int) = ((dc d).length : Int) := i64w (by omega) (by omega)
  by_cases hl2 : (dc c).length = (dc d).length
  ·have nS : i2b (K.b.norm (l.F 9019 1000000 [c, d, ((dc c).length : Int), 0])) = true :=
    Sp _ ⟨rfl, hl2, by show (0 : Int) <= 0; omega, by show (0 : Int) <= ((dc c).length : Int); omega, by show ((dc c).length : Int) < cap8; unfold cap8; omega, p3, p4⟩
   have f0 : l.F 9019 0 [c, d, ((dc c).length : Int), 0] = b2i (dc c == dc d) := S 0 rfl _
   have f1 : l.F 9019 1 [c, d, ((dc c).length : Int), 0] = 0 := S 1 rfl _
   have hne : (((dc c).length : Int) != ((dc d).length : Int)) = false := by simp [hl2]
   refine ⟨?_, ?_, trivial⟩
   ·simp only [JD, II, ewA, ewL, preC, binI, dvI, shI, cmpB, env, bi, List.headD, List.tail, List.map, Nat.reduceAdd, w0, wc, wd, hne, nS]; rfl
   ·simp only [Lu, II, e19, ewA, ewL, preC, binI, dvI, shI, cmpB, env, bi, List.headD, List.tail, List.map, Nat.reduceAdd, w0, wc, wd, hne, f0, f1]
    cases dc c == dc d <;> rfl
  ·have hne : (((dc c).length : Int) != ((dc d).length : Int)) = true := by simp; omega
   have hd : (dc c == dc d) = false := by
    rw [beq_eq_false_iff_ne]
    exact fun e => hl2 (by rw [e])
   refine ⟨?_, ?_, trivial⟩
   ·simp only [JD, II, ewA, ewL, preC, binI, dvI, shI, cmpB, env, bi, List.headD, List.tail, List.map, Nat.reduceAdd, w0, wc, wd, hne]; rfl
   ·simp only [Lu, II, e19, ewA, ewL, preC, binI, dvI, shI, cmpB, env, bi, List.headD, List.tail, List.map, Nat.reduceAdd, w0, wc, wd, hne, hd]; rfl
structure WS (S now bu le mo T n b l m : Int) (p : RL × RL) : Prop where
 a1 : now = n
 a2 : bu = b
 a3 : le = l
 a4 : mo = m
 s : dc S = p.1
 t : dc T = p.2
 ok : ∃ Q, WOK n b l p.1 p.2 Q (b * (255 - n % 256))
 mb : 0 <= m /\ m <= 1152921504606846976
theorem WS.new {S now bu le mo T n c b : Int} (h : newW n c b) (d0 : S = e13.fn 0 [n, c, b]) (d1 : now = IntKind.i64.wrap (e13.fn 1 [n, c, b])) (d2 : bu = IntKind.i64.wrap (e13.fn 2 [n, c, b])) (d3 : le = IntKind.i64.wrap (e13.fn 3 [n, c, b])) (d4 : mo = IntKind.i64.wrap (e13.fn 4 [n, c, b])) (d5 : T = e13.fn 5 [n, c, b]) :
 WS S now bu le mo T n b 0 0 (S0, Tn c) := by
 have hh := h
 obtain ⟨h1, h2, h3, h4⟩ := hh
 refine ⟨d1.trans (i64w (by show -9223372036854775808 <= n; omega) (by show n <= _; omega)), d2.trans (i64w (by show -9223372036854775808 <= b; omega) (by show b <= _; omega)), d3.trans rfl, d4.trans rfl, by rw [d0]; exact Ac _, by rw [d5]; exact Ac _, ⟨_, WOK.new h (Int.mul_nonneg (by omega) (by omega))⟩, by decide⟩
theorem WOK.armed {now bu le w d : Int} {S T : RL} {Q : Nat -> List Nat} {i : Nat} (h : WOK now bu le S T Q w) (hi : i < T.length) (hd : now < d /\ d <= now + 2147483648) :
 ∃ Q', WOK now bu (if 0 < gC T i 4 then le else le + 1) (armW now d (S, T) i).1 (armW now d (S, T) i).2 Q' w /\ (armW now d (S, T) i).2.length = T.length := by
 unfold armW clW
 by_cases hz : 0 < gC T i 4
 ·simp only [if_pos hz]
  obtain ⟨A, B, _, k1, k2, k3, k4⟩ := h.drop hi hz
  obtain ⟨m1, m2, _⟩ := k1.put (d := d) (i := i) (by rw [k2]; exact hi) k4 hd
  have e : le - 1 + 1 = le := by omega
  rw [e] at m1
  exact ⟨_, m1, m2.trans k2⟩
 ·simp only [if_neg hz]
  have := (h.dr i hi).1
  obtain ⟨m1, m2, _⟩ := h.put (d := d) (i := i) hi (by omega) hd
  exact ⟨_, m1, m2⟩
theorem WS.arm {S now bu le mo T n b l m i d S' now' bu' le' mo' T' e l' : Int} {p : RL × RL} (h : WS S now bu le mo T n b l m p) (hi : 0 <= i /\ i < (p.2.length : Int)) (hd : n < d /\ d <= n + 2147483648) (hl : (if 0 < gC p.2 i.toNat 4 then l else l + 1) = l')
 (d0 : S' = e14.fn 0 [S, now, bu, le, mo, T, i, d]) (d1 : now' = IntKind.i64.wrap (e14.fn 1 [S, now, bu, le, mo, T, i, d])) (d2 : bu' = IntKind.i64.wrap (e14.fn 2 [S, now, bu, le, mo, T, i, d])) (d3 : le' = IntKind.i64.wrap (e14.fn 3 [S, now, bu, le, mo, T, i, d])) (d4 : mo' = IntKind.i64.wrap (e14.fn 4 [S, now, bu, le, mo, T, i, d])) (d5 : T' = e14.fn 5 [S, now, bu, le, mo, T, i, d]) (d6 : e = IntKind.i64.wrap (e14.fn 6 [S, now, bu, le, mo, T, i, d])) :
 WS S' now' bu' le' mo' T' n b l' m (armW n d p i.toNat) /\ e = 0 := by
 obtain ⟨rfl, rfl, rfl, rfl, hs, ht, ⟨Q, ok⟩, mb⟩ := h
 obtain ⟨P1, P2⟩ := p
 replace hs : dc S = P1 := hs
 replace ht : dc T = P2 := ht
 subst hs ht
 have hk : okA [S, now, bu, le, mo, T, i, d] := ⟨hi, hd⟩
 have htm := ok.tm
 have hbg := ok.bg
 obtain ⟨Q', m1, m2⟩ := ok.armed (i := i.toNat) (d := d) (by show i.toNat < (dc T).length; have : i < ((dc T).length : Int) := hi.2; omega) hd
 have hler := m1.le_rng
 have e0 : e14.fn 0 [S, now, bu, le, mo, T, i, d] = cd (armW now d (dc S, dc T) i.toNat).1 := if_pos hk
 have e3 : e14.fn 3 [S, now, bu, le, mo, T, i, d] = l' := (if_pos hk).trans hl
 have e5 : e14.fn 5 [S, now, bu, le, mo, T, i, d] = cd (armW now d (dc S, dc T) i.toNat).2 := if_pos hk
 have e6 : e14.fn 6 [S, now, bu, le, mo, T, i, d] = 0 := if_pos hk
 replace hl : (if 0 < gC (dc T) i.toNat 4 then le else le + 1) = l' := hl
 rw [hl] at m1 hler
 refine ⟨⟨d1.trans (i64w (by show -9223372036854775808 <= now; omega) (by show now <= _; omega)), d2.trans (i64w (by show -9223372036854775808 <= bu; omega) (by show bu <= _; omega)), ?_, d4.trans (i64w (by show -9223372036854775808 <= mo; omega) (by show mo <= _; omega)), ?_, ?_, ⟨Q', m1⟩, mb⟩, ?_⟩
 ·rw [d3, e3]; exact i64w (by omega) (by omega)
 ·rw [d0, e0, Ac]
 ·rw [d5, e5, Ac]
 ·rw [d6, e6]; rfl
theorem RG (xs : List Int) : dc (fnTi 0 xs) = (mvR xs).1.1 /\ dc (fnTi 5 xs) = (mvR xs).1.2 := by
 have hz : (mvR xs).2 = 0 -> (mvR xs).1 = (SW xs, TW xs) := fun h => Qm h
 constructor
 ·show dc (if (mvR xs).2 = 0 then env xs 0 else cd (mvR xs).1.1) = _
  split
  ·rename_i h; rw [hz h]; rfl
  ·exact Ac _
 ·show dc (if (mvR xs).2 = 0 then env xs 5 else cd (mvR xs).1.2) = _
  split
  ·rename_i h; rw [hz h]; rfl
  ·exact Ac _
theorem WM (S now bu le mo T i : Int) : (dc (fn50 0 [S, now, bu, le, mo, T, i]), dc (fn50 5 [S, now, bu, le, mo, T, i])) = DB i.toNat (dc S, dc T) := by
 show (dc (if gC (dc S) i.toNat 2 = 0 then S else cd (joinS (dc S) i.toNat)), dc (if gC (dc S) i.toNat 2 = 0 then T else cd (joinT (dc T) (gC (dc S) i.toNat 0) (gC (dc S) 2048 1)))) = (if gC (dc S) i.toNat 2 = 0 then (dc S, dc T) else (joinS (dc S) i.toNat, joinT (dc T) (gC (dc S) i.toNat 0) (gC (dc S) 2048 1)))
 by_cases h : gC (dc S) i.toNat 2 = 0
 ·simp only [if_pos h]
 ·simp only [if_neg h, Ac]
theorem WN (S now bu le mo T : Int) : dc (fn15 0 [S, now, bu, le, mo, T]) = (tickW now bu (dc S, dc T)).1.1 /\ dc (fn15 5 [S, now, bu, le, mo, T]) = (tickW now bu (dc S, dc T)).1.2 /\ fn15 6 [S, now, bu, le, mo, T] = (tickW now bu (dc S, dc T)).2 /\
 fn15 4 [S, now, bu, le, mo, T] = mo + (tickW now bu (dc S, dc T)).2 := by
 by_cases hM : now = 1099511627776
 ·have e : tickW now bu (dc S, dc T) = ((dc S, dc T), 0) := if_pos hM
  rw [e]
  refine ⟨?_, ?_, if_pos hM, ?_⟩
  ·exact congrArg dc (if_pos hM)
  ·exact congrArg dc (if_pos hM)
  ·refine (if_pos hM).trans ?_
   show mo = mo + 0
   omega
 ·obtain ⟨ys, hy⟩ : ∃ ys, ys = jnY [S, now, bu, le, mo, T] := ⟨_, rfl⟩
  have e : tickW now bu (dc S, dc T) = mvR ys := by
   have e1 : tickW now bu (dc S, dc T) = mvN (now + 1) bu.toNat (DB ((now + 1) % 512).toNat (dc S, dc T)) := if_neg hM
   rw [e1, <- WM S (now + 1) bu le mo T, hy]
   show _ = mvN (now + 1) (bu - 0).toNat _
   rw [Int.sub_zero]
   rfl
  have e6 : fnTi 6 ys = (mvR ys).2 := by
   show env ys 6 + (mvR ys).2 = _
   rw [show env ys 6 = 0 by rw [hy]; rfl, Int.zero_add]
  rw [e]
  refine ⟨?_, ?_, ?_, ?_⟩
  ·refine (congrArg dc (if_neg hM)).trans ?_
   rw [<- hy]; exact (RG ys).1
  ·refine (congrArg dc (if_neg hM)).trans ?_
   rw [<- hy]; exact (RG ys).2
  ·refine (if_neg hM).trans ?_
   rw [<- hy]; exact e6
  ·refine (if_neg hM).trans ?_
   rw [<- hy, e6]; rfl
theorem WS.tick {S now bu le mo T n b l m S' now' bu' le' mo' T' v : Int} {p : RL × RL} (h : WS S now bu le mo T n b l m p) (hm : m + b <= 1152921504606846976)
 (d0 : S' = e15.fn 0 [S, now, bu, le, mo, T]) (d1 : now' = IntKind.i64.wrap (e15.fn 1 [S, now, bu, le, mo, T])) (d2 : bu' = IntKind.i64.wrap (e15.fn 2 [S, now, bu, le, mo, T])) (d3 : le' = IntKind.i64.wrap (e15.fn 3 [S, now, bu, le, mo, T])) (d4 : mo' = IntKind.i64.wrap (e15.fn 4 [S, now, bu, le, mo, T])) (d5 : T' = e15.fn 5 [S, now, bu, le, mo, T]) (d6 : v = IntKind.i64.wrap (e15.fn 6 [S, now, bu, le, mo, T])) :
 WS S' now' bu' le' mo' T' (nowT n) b l (m + (tickW n b p).2) (tickW n b p).1 /\ v = (tickW n b p).2 := by
 obtain ⟨rfl, rfl, rfl, rfl, hs, ht, ⟨Q, ok⟩, mb⟩ := h
 obtain ⟨P1, P2⟩ := p
 replace hs : dc S = P1 := hs
 replace ht : dc T = P2 := ht
 subst hs ht
 obtain ⟨f0, f5, f6, f4⟩ := WN S now bu le mo T
 obtain ⟨Q', t1, t2, t3, _⟩ := ok.tick
 have htm := t1.tm
 have hbg := ok.bg
 have hle := ok.le_rng
 obtain ⟨g, hg⟩ : ∃ g, g = (tickW now bu (dc S, dc T)).2 := ⟨_, rfl⟩
 rw [<- hg] at f6 f4 t2 t3 ⊢
 refine ⟨⟨d1.trans (i64w (by show -9223372036854775808 <= nowT now; omega) (by show nowT now <= _; omega)), d2.trans (i64w (by show -9223372036854775808 <= bu; omega) (by show bu <= _; omega)), d3.trans (i64w (by show -9223372036854775808 <= le; omega) (by show le <= _; omega)), ?_, ?_, ?_, ⟨Q', t1⟩, by omega, by omega⟩, ?_⟩
 ·rw [d4]; show IntKind.i64.wrap (fn15 4 _) = _; rw [f4]; exact i64w (by omega) (by omega)
 ·rw [d0]; exact f0
 ·rw [d5]; exact f5
 ·rw [d6]; show IntKind.i64.wrap (fn15 6 _) = _; rw [f6]; exact i64w (by omega) (by omega)
theorem WO (S now bu le mo T n : Int) (hn : 0 <= n) : dc (fn17 0 [S, now, bu, le, mo, T, n]) = (tkN now n.toNat (dc S, dc T)).1.1 /\ dc (fn17 5 [S, now, bu, le, mo, T, n]) = (tkN now n.toNat (dc S, dc T)).1.2 /\ dc (fn17 6 [S, now, bu, le, mo, T, n]) = (tkN now n.toNat (dc S, dc T)).2 /\
 fn17 3 [S, now, bu, le, mo, T, n] = le - ((tkN now n.toNat (dc S, dc T)).2.length : Int) /\ fn17 7 [S, now, bu, le, mo, T, n] = 0 := by
 have hM : ¬ n < 0 := by omega
 obtain ⟨ys, hy⟩ : ∃ ys, ys = tkY [S, now, bu, le, mo, T, n] := ⟨_, rfl⟩
 have e : tkN now n.toNat (dc S, dc T) = tkR ys := by
  rw [hy]
  show _ = tkN now (n - ((dc (cd [])).length : Int)).toNat (dc S, dc T)
  rw [Ac]
  show _ = tkN now (n - (0 : Int)).toNat (dc S, dc T)
  rw [Int.sub_zero]
 have hz : (tkR ys).2 = [] -> (tkR ys).1 = (SW ys, TW ys) := fun h => Qn h
 rw [e]
 refine ⟨?_, ?_, ?_, ?_, if_neg hM⟩
 ·refine (congrArg dc (if_neg hM)).trans ?_
  show dc (fnTk 0 (tkY [S, now, bu, le, mo, T, n])) = _
  rw [<- hy]
  show dc (if (tkR ys).2 = [] then env ys 0 else cd (tkR ys).1.1) = _
  split
  ·rename_i h; rw [hz h]; rfl
  ·exact Ac _
 ·refine (congrArg dc (if_neg hM)).trans ?_
  show dc (fnTk 5 (tkY [S, now, bu, le, mo, T, n])) = _
  rw [<- hy]
  show dc (if (tkR ys).2 = [] then env ys 5 else cd (tkR ys).1.2) = _
  split
  ·rename_i h; rw [hz h]; rfl
  ·exact Ac _
 ·refine (congrArg dc (if_neg hM)).trans ?_
  show dc (fnTk 6 (tkY [S, now, bu, le, mo, T, n])) = _
  rw [<- hy]
  have e7 : env ys 7 = cd [] := by rw [hy]; rfl
  show dc (if (tkR ys).2 = [] then env ys 7 else cd (dc (env ys 7) ++ (tkR ys).2)) = _
  rw [e7]
  split
  ·rename_i h; rw [h]; exact Ac _
  ·rw [Ac, Ac, List.nil_append]
 ·refine (if_neg hM).trans ?_
  show fnTk 3 (tkY [S, now, bu, le, mo, T, n]) = _
  rw [<- hy]
  show env ys 3 - ((tkR ys).2.length : Int) = _
  rw [show env ys 3 = le by rw [hy]; rfl]
theorem WS.take {S now bu le mo T n b l m k S' now' bu' le' mo' T' v e : Int} {p : RL × RL} (h : WS S now bu le mo T n b l m p) (hk : 0 <= k)
 (d0 : S' = e17.fn 0 [S, now, bu, le, mo, T, k]) (d1 : now' = IntKind.i64.wrap (e17.fn 1 [S, now, bu, le, mo, T, k])) (d2 : bu' = IntKind.i64.wrap (e17.fn 2 [S, now, bu, le, mo, T, k])) (d3 : le' = IntKind.i64.wrap (e17.fn 3 [S, now, bu, le, mo, T, k])) (d4 : mo' = IntKind.i64.wrap (e17.fn 4 [S, now, bu, le, mo, T, k])) (d5 : T' = e17.fn 5 [S, now, bu, le, mo, T, k]) (d6 : v = e17.fn 6 [S, now, bu, le, mo, T, k]) (d7 : e = IntKind.i64.wrap (e17.fn 7 [S, now, bu, le, mo, T, k])) :
 WS S' now' bu' le' mo' T' n b (l - ((tkN n k.toNat p).2.length : Int)) m (tkN n k.toNat p).1 /\ dc v = (tkN n k.toNat p).2 /\ e = 0 := by
 obtain ⟨rfl, rfl, rfl, rfl, hs, ht, ⟨Q, ok⟩, mb⟩ := h
 obtain ⟨P1, P2⟩ := p
 replace hs : dc S = P1 := hs
 replace ht : dc T = P2 := ht
 subst hs ht
 obtain ⟨f0, f5, f6, f3, f7⟩ := WO S now bu le mo T k hk
 obtain ⟨Q', t1, _⟩ := KO k.toNat (dc S, dc T) Q le _ ok
 have htm := ok.tm
 have hbg := ok.bg
 have hle := t1.le_rng
 refine ⟨⟨d1.trans (i64w (by show -9223372036854775808 <= now; omega) (by show now <= _; omega)), d2.trans (i64w (by show -9223372036854775808 <= bu; omega) (by show bu <= _; omega)), ?_, d4.trans (i64w (by show -9223372036854775808 <= mo; omega) (by show mo <= _; omega)), ?_, ?_, ⟨Q', t1⟩, mb⟩, ?_, ?_⟩
 ·rw [d3]; show IntKind.i64.wrap (fn17 3 _) = _; rw [f3]; exact i64w (by omega) (by omega)
 ·rw [d0]; exact f0
 ·rw [d5]; exact f5
 ·rw [d6]; exact f6
 ·rw [d7]; show IntKind.i64.wrap (fn17 7 _) = _; rw [f7]; rfl
structure WV (S now bu le mo T c : Int) (d : Nat -> Int) (B : List Nat) : Prop where
 ok : ∃ Q, WOK now bu le (dc S) (dc T) Q (bu * (255 - now % 256)) /\ Q 2048 = B
 mb : 0 <= mo /\ mo <= 1125899906842624
 cp : ((dc T).length : Int) = c
 dl : ∀ i : Nat, (i : Int) < c -> gC (dc T) i 4 = d i
 sr : B.Pairwise fun a b => d a <= d b
def upD (d : Nat -> Int) (i : Nat) (v : Int) : Nat -> Int := fun j => if j = i then v else d j
theorem BL (d : Nat -> Int) (i : Nat) (v : Int) : upD d i v i = v := if_pos rfl
theorem AL (d : Nat -> Int) {i j : Nat} (v : Int) (h : j ≠ i) : upD d i v j = d j := if_neg h
section
variable {S now bu le mo T c : Int} {d : Nat -> Int} {B : List Nat}
theorem WV.wx (h : WV S now bu le mo T c d B) : WX [S, now, bu, le, mo, T] := by
 obtain ⟨Q, ok, _⟩ := h.ok
 have := h.mb
 exact ⟨⟨Q, ok⟩, this.1, by show mo <= 1152921504606846976; omega⟩
theorem WV.wx1 (h : WV S now bu le mo T c d B) (i : Int) : WX [S, now, bu, le, mo, T, i] := h.wx
theorem WV.wx2 (h : WV S now bu le mo T c d B) (i j : Int) : WX [S, now, bu, le, mo, T, i, j] := h.wx
theorem WV.tm (h : WV S now bu le mo T c d B) : 0 <= now /\ now <= 1099511627776 := by obtain ⟨Q, ok, _⟩ := h.ok; exact ok.tm
theorem WV.bg (h : WV S now bu le mo T c d B) : 1 <= bu /\ bu <= 4096 := by obtain ⟨Q, ok, _⟩ := h.ok; exact ok.bg
theorem WV.ct (h : WV S now bu le mo T c d B) : 0 < c /\ c <= 4096 := by obtain ⟨Q, ok, _⟩ := h.ok; have := ok.ct; have := h.cp; omega
theorem WV.ler (h : WV S now bu le mo T c d B) : 0 <= le /\ le <= 4096 := by obtain ⟨Q, ok, _⟩ := h.ok; exact ok.le_rng
theorem WV.lenOK (h : WV S now bu le mo T c d B) (r : List Int) : lenOK (S :: now :: bu :: le :: mo :: T :: r) := by
 have := h.ct; have := h.cp
 exact ⟨by show 0 < ((dc T).length : Int); omega, by show ((dc T).length : Int) <= 4096; omega⟩
theorem WV.preR (h : WV S now bu le mo T c d B) (i : Int) : preR [S, now, bu, le, mo, T, i] := by
 obtain ⟨Q, ok, _⟩ := h.ok
 exact ⟨h.lenOK [i], ok.rT⟩
theorem WV.pre16 (h : WV S now bu le mo T c d B) : e16.pre [S, now, bu, le, mo, T] := by
 obtain ⟨Q, ok, _⟩ := h.ok
 exact ⟨h.lenOK [], ok.rS, ok.lk.sw.1⟩
theorem WV.mem (h : WV S now bu le mo T c d B) (i : Nat) : i ∈ B ↔ (i : Int) < c /\ 0 < d i /\ d i <= now := by
 obtain ⟨Q, ok, rfl⟩ := h.ok
 have hc := h.cp
 constructor
 ·intro hi
  have h1 := ok.lk.qc _ i hi
  have hic : (i : Int) < c := by omega
  obtain ⟨o1, o2⟩ := ok.out _ i hi
  have e := h.dl i hic
  refine ⟨hic, by omega, ?_⟩
  rw [<- e]
  by_cases hh : gC (dc T) i 4 <= now
  ·exact hh
  ·exfalso
   obtain ⟨p1, p2, _⟩ := ok.pl i h1 (by omega)
   unfold locI at o2
   rw [if_neg hh] at o2
   have : 0 <= gC (dc T) i 1 /\ gC (dc T) i 1 < 512 := by omega
   omega
 ·rintro ⟨h1, h2, h3⟩
  have e := h.dl i h1
  have := ok.inn i (by omega) (by omega)
  unfold locI at this
  rw [if_pos (by omega)] at this
  exact this
theorem WV.nd (h : WV S now bu le mo T c d B) : B.Nodup := by
 obtain ⟨Q, ok, rfl⟩ := h.ok
 exact ok.lk.nd 2048
theorem WV.lag (h : WV S now bu le mo T c d B) : gC (dc S) 2048 2 = (B.length : Int) := by
 obtain ⟨Q, ok, rfl⟩ := h.ok
 exact (ok.lk.hd 2048 (by decide)).2.2
theorem WV.dr (h : WV S now bu le mo T c d B) {i : Nat} (hi : (i : Int) < c) : 0 <= d i /\ d i <= now + 2147483648 := by
 obtain ⟨Q, ok, rfl⟩ := h.ok
 have := h.cp
 rw [<- h.dl i hi]; exact ok.dr i (by omega)
theorem WV.lenB (h : WV S now bu le mo T c d B) : (B.length : Int) <= c := by
 have hn := h.nd
 have hs : B ⊆ List.range c.toNat := fun i hi => by
  have := ((h.mem i).1 hi).1
  exact List.mem_range.2 (by omega)
 have h1 := List.Nodup.length_le_of_subset hn hs
 have h2 := h.ct
 rw [List.length_range] at h1
 omega
def cntP (c : Int) (d : Nat -> Int) : Int := (cnt c.toNat (fun i => decide (0 < d i)) : Nat)
theorem WV.len (h : WV S now bu le mo T c d B) : le = cntP c d := by
 obtain ⟨Q, ok, rfl⟩ := h.ok
 have hc := h.cp
 rw [ok.ln]
 unfold cntP cntD
 rw [show (dc T).length = c.toNat by omega]
 congr 1
 exact HV fun j hj => by rw [h.dl j (by omega)]
theorem UY {A C : List Nat} {i : Nat} (h : (A ++ i :: C).Nodup) : (A ++ i :: C).erase i = A ++ C := by
 have hi : i ∉ A := fun hm => by
  rw [List.nodup_append] at h
  exact h.2.2 i hm i (by simp) rfl
 rw [List.erase_append_right _ hi, List.erase_cons_head]
def NN (T : RL) : Prop := ∀ y, 0 <= gC T y 0
theorem RH {now bu le : Int} : ∀ (n : Nat) (p : RL × RL) (Q : Nat -> List Nat) (w : Int), WOK now bu le p.1 p.2 Q w -> NN p.2 -> NN (mvN now n p).1.2
 | 0, p, Q, w, _, hn => hn
 | n + 1, p, Q, w, h, hn => by
   by_cases hz : wtF p.1 now = 0
   ·have e : mvN now (n + 1) p = (p, 0) := if_pos hz
    rw [e]; exact hn
   ·obtain ⟨i, hi1, hi2, hi3⟩ := h.wait_pos hz
    obtain ⟨Q1, m1, m2, m3, m4, m5, m6, m7⟩ := h.move hi1 hi2 hi3
    have e : mvN now (n + 1) p = ((mvN now n (mvW now p)).1, (mvN now n (mvW now p)).2 + 1) := if_neg hz
    rw [e]
    refine RH n (mvW now p) Q1 (w - 1) m1 fun y => ?_
    by_cases hy : y = i
    ·subst hy; exact m6
    ·have := m4 y hy
     have e2 : gC (mvW now p).2 y 0 = gC p.2 y 0 := this
     rw [e2]; exact hn y
theorem WOK.tick_nn {now bu le : Int} {S T : RL} {Q : Nat -> List Nat} (h : WOK now bu le S T Q (bu * (255 - now % 256))) (hn : NN T) : NN (tickW now bu (S, T)).1.2 := by
 have htm := h.tm
 by_cases hM : now = 1099511627776
 ·have e1 : tickW now bu (S, T) = ((S, T), 0) := if_pos hM
  rw [e1]; exact hn
 ·obtain ⟨k, hk⟩ : ∃ k, k = ((now + 1) % 512).toNat := ⟨_, rfl⟩
  obtain ⟨j1, j2, j3⟩ := h.join (by omega) hk
  have ej : DB k (S, T) = (if gC S k 2 = 0 then S else joinS S k, if gC S k 2 = 0 then T else joinT T (gC S k 0) (gC S 2048 1)) := by
   unfold DB
   by_cases hc : gC S k 2 = 0 <;> simp [hc]
  have e1 : tickW now bu (S, T) = mvN (now + 1) bu.toNat (DB k (S, T)) := by rw [hk]; exact if_neg hM
  rw [e1, ej]
  exact RH bu.toNat _ _ _ j1 fun y => by rw [j3 y 0 (by decide) (by decide)]; exact hn y
theorem WOK.gone {now bu le w : Int} {S T : RL} {Q : Nat -> List Nat} {i : Nat} (h : WOK now bu le S T Q w) (hi : i < T.length) (hd : 0 < gC T i 4) :
 ∃ Q', WOK now bu (le - 1) (dpW now (S, T) i).1 (dpW now (S, T) i).2 Q' w /\ Q' 2048 = (Q 2048).erase i /\
   (dpW now (S, T) i).2.length = T.length /\ (∀ y, y ≠ i -> gC (dpW now (S, T) i).2 y 0 = gC T y 0 /\ gC (dpW now (S, T) i).2 y 4 = gC T y 4) /\ gC (dpW now (S, T) i).2 i 4 = 0 /\ (∀ m, i ∉ Q' m) /\ gC (dpW now (S, T) i).2 i 0 = 0 := by
 obtain ⟨A, C, k0, k1, k2, k3, k4⟩ := h.drop hi hd
 refine ⟨_, k1, ?_, k2, fun y hy => ⟨(k3 y hy).1, (k3 y hy).2.2⟩, k4, fun m hm => ?_, by rw [show (dpW now (S, T) i).2 = dropT T i from rfl, (Jy h.lk k0).2 i 0, if_pos ⟨rfl, by decide⟩]⟩
 ·by_cases hk : (locI now T i).toNat = 2048
  ·rw [hk, Bp]
   rw [hk] at k0
   rw [k0, UY (by rw [<- k0]; exact h.lk.nd 2048)]
  ·rw [BR _ _ (fun e => hk e.symm)]
   refine (List.erase_of_not_mem fun hm => hk ?_).symm
   exact (h.out _ i hm).2
 ·have : 0 < gC (dropT T i) i 4 := (k1.out m i hm).1
  omega
theorem UZ {now bu : Int} : ∀ (n : Nat) (p : RL × RL) (Q : Nat -> List Nat) (le w : Int), WOK now bu le p.1 p.2 Q w -> NN p.2 -> NN (tkN now n p).1.2 /\ lvSum (tkN now n p).1.2 p.2.length <= lvSum p.2 p.2.length
 | 0, p, Q, le, w, _, hn => ⟨hn, Int.le_refl _⟩
 | n + 1, p, Q, le, w, h, hn => by
   obtain ⟨b0, _, b2⟩ := h.lk.hd 2048 (by decide)
   cases hq : Q 2048 with
   | nil =>
     have e : tkN now (n + 1) p = (p, []) := if_neg (by rw [b2, hq]; decide)
     rw [e]; exact ⟨hn, Int.le_refl _⟩
   | cons i r =>
     have hm : i ∈ Q 2048 := by rw [hq]; simp
     have hi := h.lk.qc _ i hm
     obtain ⟨o1, o2⟩ := h.out _ i hm
     have hb : gC p.1 2048 0 - 1 = (i : Int) := by rw [b0, hq]; show (i : Int) + 1 - 1 = _; omega
     have hz : 0 < gC p.1 2048 2 := by rw [b2, hq]; simp
     have en : ((i : Int)).toNat = i := by omega
     obtain ⟨Q1, k1, _, k3, k4, _, _, k7⟩ := h.gone hi o1
     have e : tkN now (n + 1) p = ((tkN now n (dpW now p i)).1, [(i : Int)] :: (tkN now n (dpW now p i)).2) := by
      show (if 0 < gC p.1 2048 2 then _ else _) = _
      rw [if_pos hz, hb, en]
     have hn1 : NN (dpW now p i).2 := fun y => by
      by_cases hy : y = i
      ·have e3 : gC (dpW now p i).2 i 0 = 0 := k7
       rw [hy, e3]; decide
      ·have e3 : gC (dpW now p i).2 y 0 = gC p.2 y 0 := (k4 y hy).1
       rw [e3]; exact hn y
     obtain ⟨r1, r2⟩ := UZ n (dpW now p i) Q1 (le - 1) w k1 hn1
     have hs := KK (n := p.2.length) (T := p.2) (T' := (dpW now p i).2) hi (fun y hy => (k4 y hy).1)
     have e3 : gC (dpW now p i).2 i 0 = 0 := k7
     have e4 : (dpW now p i).2.length = p.2.length := k3
     rw [e4] at r2
     have := hn i
     rw [e]
     exact ⟨r1, by show lvSum (tkN now n (dpW now p i)).1.2 p.2.length <= _; omega⟩
theorem WOK.come {now bu le w dd : Int} {S T : RL} {Q : Nat -> List Nat} {i : Nat} (h : WOK now bu le S T Q w) (hi : i < T.length) (hz : gC T i 4 = 0) (hd : now < dd /\ dd <= now + 2147483648) :
 ∃ Q', WOK now bu (le + 1) (ptW now dd (S, T) i).1 (ptW now dd (S, T) i).2 Q' w /\ Q' 2048 = Q 2048 /\
   (ptW now dd (S, T) i).2.length = T.length /\ (∀ y, y ≠ i -> gC (ptW now dd (S, T) i).2 y 0 = gC T y 0 /\ gC (ptW now dd (S, T) i).2 y 4 = gC T y 4) /\ gC (ptW now dd (S, T) i).2 i 4 = dd /\ gC (ptW now dd (S, T) i).2 i 0 = lvF now dd := by
 obtain ⟨m1, m2, m3, m4, _, m6⟩ := h.put hi hz hd
 refine ⟨_, m1, ?_, m2, fun y hy => ⟨(m3 y hy).1, (m3 y hy).2.2⟩, m6, m4⟩
 have hk : (kW now dd).toNat ≠ 2048 := by
  obtain ⟨Q', m⟩ : ∃ Q', Q' = uQ Q (kW now dd).toNat (Q (kW now dd).toNat ++ [i]) := ⟨_, rfl⟩
  rw [<- m] at m1
  have hin : i ∈ Q' (kW now dd).toNat := by rw [m, Bp]; simp
  have ho := (m1.out _ i hin).2
  have hl := m1.loc_lt (i := i) (by rw [m2]; exact hi) (by rw [m6]; exact hd.1)
  omega
 rw [BR _ _ (fun e => hk e.symm)]
theorem WOK.arms {now bu le w dd : Int} {S T : RL} {Q : Nat -> List Nat} {i : Nat} (h : WOK now bu le S T Q w) (hi : i < T.length) (hd : now < dd /\ dd <= now + 2147483648) :
 ∃ Q', WOK now bu (if 0 < gC T i 4 then le else le + 1) (armW now dd (S, T) i).1 (armW now dd (S, T) i).2 Q' w /\ Q' 2048 = (Q 2048).erase i /\
   (armW now dd (S, T) i).2.length = T.length /\ (∀ y, y ≠ i -> gC (armW now dd (S, T) i).2 y 0 = gC T y 0 /\ gC (armW now dd (S, T) i).2 y 4 = gC T y 4) /\ gC (armW now dd (S, T) i).2 i 4 = dd /\ gC (armW now dd (S, T) i).2 i 0 = lvF now dd := by
 unfold armW clW
 by_cases hz : 0 < gC T i 4
 ·simp only [if_pos hz]
  obtain ⟨Q1, k1, k2, k3, k4, k5, _⟩ := h.gone hi hz
  obtain ⟨Q2, m1, m2, m3, m4, m5, m6⟩ := k1.come (dd := dd) (i := i) (by rw [k3]; exact hi) k5 hd
  have e : le - 1 + 1 = le := by omega
  rw [e] at m1
  exact ⟨Q2, m1, m2.trans k2, m3.trans k3, fun y hy => ⟨(m4 y hy).1.trans (k4 y hy).1, (m4 y hy).2.trans (k4 y hy).2⟩, m5, m6⟩
 ·simp only [if_neg hz]
  have := (h.dr i hi).1
  obtain ⟨Q2, m1, m2, m3, m4, m5, m6⟩ := h.come (i := i) hi (by omega) hd
  refine ⟨Q2, m1, m2.trans ?_, m3, m4, m5, m6⟩
  refine (List.erase_of_not_mem fun hm => ?_).symm
  have := (h.out _ i hm).1
  omega
theorem JE {d d' : Nat -> Int} : ∀ {l : List Nat}, (∀ i ∈ l, d' i = d i) -> l.Pairwise (fun a b => d a <= d b) -> l.Pairwise fun a b => d' a <= d' b
 | [], _, _ => List.Pairwise.nil
 | a :: l, h, hp => by
   rw [List.pairwise_cons] at hp ⊢
   refine ⟨fun b hb => ?_, JE (fun i hi => h i (List.mem_cons_of_mem _ hi)) hp.2⟩
   rw [h a (List.mem_cons_self ..), h b (List.mem_cons_of_mem _ hb)]
   exact hp.1 b hb
theorem WV.arm {S' now' bu' le' mo' T' e i dd : Int} (h : WV S now bu le mo T c d B) (hi : 0 <= i /\ i < c) (hd : now < dd /\ dd <= now + 2147483648)
 (ho : Aj e14.fn [S, now, bu, le, mo, T, i, dd] 0 [.x, .i .i64, .i .i64, .i .i64, .i .i64, .x, .i .i64] [S', now', bu', le', mo', T', e]) :
 WV S' now' bu' le' mo' T' c (upD d i.toNat dd) (B.erase i.toNat) /\ now' = now /\ bu' = bu /\ mo' = mo /\ e = 0 /\ le' = (if 0 < d i.toNat then le else le + 1) /\
  (∀ y, y ≠ i.toNat -> gC (dc T') y 0 = gC (dc T) y 0) /\ gC (dc T') i.toNat 0 = lvF now dd := by
 obtain ⟨o0, o1, o2, o3, o4, o5, o6, _⟩ := ho
 have w : WS S now bu le mo T now bu le mo (dc S, dc T) := by
  obtain ⟨Q, ok, _⟩ := h.ok
  have := h.mb
  exact ⟨rfl, rfl, rfl, rfl, rfl, rfl, ⟨Q, ok⟩, by omega⟩
 have hc := h.cp
 obtain ⟨s, he⟩ := w.arm (i := i) (d := dd) (l' := if 0 < gC (dc T) i.toNat 4 then le else le + 1) (by show 0 <= i /\ i < ((dc T).length : Int); omega) hd rfl o0 o1 o2 o3 o4 o5 o6
 obtain ⟨Q, ok, hB⟩ := h.ok
 obtain ⟨Q', q1, q2, q3, q4, q5, q6⟩ := ok.arms (i := i.toNat) (dd := dd) (by omega) hd
 obtain ⟨rfl, rfl, rfl, rfl, hs, ht, _, _⟩ := s
 have hic : (i.toNat : Int) < c := by omega
 have hdi := h.dl i.toNat hic
 refine ⟨⟨⟨Q', ?_, ?_⟩, h.mb, ?_, fun y hy => ?_, ?_⟩, rfl, rfl, rfl, he, by rw [hdi], fun y hy => ?_, ?_⟩
 ·rw [hs, ht]; exact q1
 ·rw [q2, hB]
 ·rw [ht, <- hc]; exact congrArg Int.ofNat q3
 ·rw [ht]
  by_cases e : y = i.toNat
  ·subst e; rw [BL]; exact q5
  ·rw [AL _ _ e, <- h.dl y hy]; exact (q4 y e).2
 ·refine JE (d := d) (fun y hy => ?_) (h.sr.sublist (List.erase_sublist ..))
  have : y ≠ i.toNat := fun e => by
   subst e
   exact (List.Nodup.not_mem_erase h.nd) hy
  exact AL _ _ this
 ·rw [ht]; exact (q4 y hy).1
 ·rw [ht]; exact q6
theorem WV.can {S' now' bu' le' mo' T' e i : Int} (h : WV S now bu le mo T c d B) (hi : 0 <= i /\ i < c)
 (ho : Aj e24.fn [S, now, bu, le, mo, T, i] 0 [.x, .i .i64, .i .i64, .i .i64, .i .i64, .x, .i .i64] [S', now', bu', le', mo', T', e]) :
 WV S' now' bu' le' mo' T' c (upD d i.toNat 0) (B.erase i.toNat) /\ now' = now /\ bu' = bu /\ mo' = mo /\ e = (if d i.toNat = 0 then 6 else 0) /\ le' = (if d i.toNat = 0 then le else le - 1) /\
  (∀ y, y ≠ i.toNat -> gC (dc T') y 0 = gC (dc T) y 0) /\ gC (dc T') i.toNat 0 = (if d i.toNat = 0 then gC (dc T) i.toNat 0 else 0) := by
 obtain ⟨o0, o1, o2, o3, o4, o5, o6, _⟩ := ho
 obtain ⟨Q, ok, hB⟩ := h.ok
 have hc := h.cp
 have htm := ok.tm
 have hbg := ok.bg
 have hler := ok.le_rng
 have hmb := h.mb
 have hic : (i.toNat : Int) < c := by omega
 have hdi := h.dl i.toNat hic
 have hdr := h.dr hic
 have hr : riW [S, now, bu, le, mo, T, i] := by show 0 <= i /\ i < ((dc T).length : Int); omega
 have e1 : now' = now := o1.trans (i64w (by show -9223372036854775808 <= now; omega) (by show now <= _; omega))
 have e2 : bu' = bu := o2.trans (i64w (by show -9223372036854775808 <= bu; omega) (by show bu <= _; omega))
 have e4 : mo' = mo := o4.trans (i64w (by show -9223372036854775808 <= mo; omega) (by show mo <= _; omega))
 by_cases hz : d i.toNat = 0
 ·have hz' : ¬ (riW [S, now, bu, le, mo, T, i] /\ gC (dc T) i.toNat 4 ≠ 0) := fun hh => hh.2 (by rw [hdi]; exact hz)
  have f0 : S' = S := o0.trans (if_neg hz')
  have f5 : T' = T := o5.trans (if_neg hz')
  have f3 : le' = le := o3.trans ((congrArg _ (if_neg hz')).trans (i64w (by show -9223372036854775808 <= le; omega) (by show le <= _; omega)))
  have f6 : e = 6 := o6.trans (by
   show IntKind.i64.wrap (if riW [S, now, bu, le, mo, T, i] then (if gC (dc T) i.toNat 4 = 0 then 6 else 0) else 2) = 6
   rw [if_pos hr, if_pos (by rw [hdi]; exact hz)]; rfl)
  subst f0 f5 f3
  have hnB : i.toNat ∉ B := fun hm => by have := ((h.mem _).1 hm).2.1; omega
  have hu : upD d i.toNat 0 = d := by
   funext y
   by_cases e : y = i.toNat
   ·subst e; rw [BL, hz]
   ·exact AL _ _ e
  rw [hu, List.erase_of_not_mem hnB, if_pos hz, if_pos hz, if_pos hz]
  exact ⟨by rw [e1, e2, e4]; exact h, e1, e2, e4, f6, rfl, fun _ _ => rfl, rfl⟩
 ·have hz' : riW [S, now, bu, le, mo, T, i] /\ gC (dc T) i.toNat 4 ≠ 0 := ⟨hr, by rw [hdi]; exact hz⟩
  obtain ⟨Q', q1, q2, q3, q4, q5, _, q7⟩ := ok.gone (i := i.toNat) (by omega) (by rw [hdi]; omega)
  have hler2 := q1.le_rng
  have f0 : dc S' = (dpW now (dc S, dc T) i.toNat).1 := by rw [o0.trans (if_pos hz')]; exact Ac _
  have f5 : dc T' = (dpW now (dc S, dc T) i.toNat).2 := by rw [o5.trans (if_pos hz')]; exact Ac _
  have f3 : le' = le - 1 := o3.trans ((congrArg _ (if_pos hz')).trans (i64w (by show -9223372036854775808 <= le - 1; omega) (by show le - 1 <= _; omega)))
  have f6 : e = 0 := o6.trans (by
   show IntKind.i64.wrap (if riW [S, now, bu, le, mo, T, i] then (if gC (dc T) i.toNat 4 = 0 then 6 else 0) else 2) = 0
   rw [if_pos hr, if_neg (by rw [hdi]; exact hz)]; rfl)
  rw [if_neg hz, if_neg hz, if_neg hz]
  refine ⟨?_, e1, e2, e4, f6, f3, fun y hy => ?_, by rw [f5]; exact q7⟩
  rw [e1, e2, e4]
  refine ⟨⟨Q', ?_, ?_⟩, h.mb, ?_, fun y hy => ?_, ?_⟩
  ·rw [f0, f5, f3]; exact q1
  ·rw [q2, hB]
  ·rw [f5, <- hc]; exact congrArg Int.ofNat q3
  ·rw [f5]
   by_cases e : y = i.toNat
   ·subst e; rw [BL]; exact q5
   ·rw [AL _ _ e, <- h.dl y hy]; exact (q4 y e).2
  ·refine JE (d := d) (fun y hy => ?_) (h.sr.sublist (List.erase_sublist ..))
   have : y ≠ i.toNat := fun e => by
    subst e
    exact (List.Nodup.not_mem_erase h.nd) hy
   exact AL _ _ this
  ·rw [f5]; exact (q4 y hy).1
theorem WV.tick {S' now' bu' le' mo' T' g : Int} (h : WV S now bu le mo T c d B) (hm : mo + bu <= 1125899906842624)
 (ho : Aj e15.fn [S, now, bu, le, mo, T] 0 [.x, .i .i64, .i .i64, .i .i64, .i .i64, .x, .i .i64] [S', now', bu', le', mo', T', g]) :
 ∃ D : List Nat, WV S' now' bu' le' mo' T' c d (B ++ D) /\ (∀ i, i ∈ D ↔ now < 1099511627776 /\ (i : Int) < c /\ d i = now + 1) /\ now' = nowT now /\ bu' = bu /\ le' = le /\ mo' = mo + g /\ 0 <= g /\ g <= bu /\
   lvSum (dc T') c.toNat + g <= lvSum (dc T) c.toNat /\ (NN (dc T) -> NN (dc T')) := by
 obtain ⟨o0, o1, o2, o3, o4, o5, o6, _⟩ := ho
 have w : WS S now bu le mo T now bu le mo (dc S, dc T) := by
  obtain ⟨Q, ok, _⟩ := h.ok
  have := h.mb
  exact ⟨rfl, rfl, rfl, rfl, rfl, rfl, ⟨Q, ok⟩, by omega⟩
 have hc := h.cp
 have hmb := h.mb
 obtain ⟨s, hv⟩ := w.tick (by omega) o0 o1 o2 o3 o4 o5 o6
 obtain ⟨Q, ok, hB⟩ := h.ok
 obtain ⟨Q', t1, t2, t3, t4, t5, t6, t7⟩ := ok.tick
 obtain ⟨rfl, rfl, rfl, e4, hs, ht, _, _⟩ := s
 have hdue := ok.due
 have hD : ∀ i, i ∈ (if now = 1099511627776 then [] else Q ((now + 1) % 512).toNat) ↔ now < 1099511627776 /\ (i : Int) < c /\ d i = now + 1 := fun i => by
  have htm := ok.tm
  by_cases hM : now = 1099511627776
  ·rw [if_pos hM]
   constructor
   ·intro hh; cases hh
   ·rintro ⟨hh, _⟩; omega
  ·rw [if_neg hM, hdue i]
   constructor
   ·rintro ⟨a, b⟩
    have hic : (i : Int) < c := by omega
    exact ⟨by omega, hic, by rw [<- h.dl i hic]; exact b⟩
   ·rintro ⟨_, a, b⟩
    exact ⟨by omega, by rw [h.dl i a]; exact b⟩
 refine ⟨if now = 1099511627776 then [] else Q ((now + 1) % 512).toNat, ⟨⟨Q', ?_, ?_⟩, ?_, ?_, fun y hy => ?_, ?_⟩, hD, rfl, rfl, rfl, ?_, ?_, ?_, ?_, fun hn => by rw [ht]; exact ok.tick_nn hn⟩
 ·rw [hs, ht]; exact t1
 ·rw [t7, hB]
 ·rw [e4]; omega
 ·rw [ht, <- hc]; exact congrArg Int.ofNat t4
 ·rw [ht, t5 y]; exact h.dl y hy
 ·rw [List.pairwise_append]
  refine ⟨h.sr, ?_, fun a ha b hb => ?_⟩
  ·refine List.pairwise_of_forall_mem_list fun a ha b hb => ?_
   rw [((hD a).1 ha).2.2, ((hD b).1 hb).2.2]; exact Int.le_refl _
  ·rw [((hD b).1 hb).2.2]
   have := ((h.mem a).1 ha).2.2
   omega
 ·rw [e4, hv]
 ·rw [hv]; exact t2
 ·rw [hv]; exact t3
 ·rw [ht, hv, show c.toNat = (dc T).length by omega]; exact t6
theorem WV.take {S' now' bu' le' mo' T' v e k : Int} (h : WV S now bu le mo T c d B) (hk : 0 <= k)
 (ho : Aj e17.fn [S, now, bu, le, mo, T, k] 0 [.x, .i .i64, .i .i64, .i .i64, .i .i64, .x, .x, .i .i64] [S', now', bu', le', mo', T', v, e]) :
 WV S' now' bu' le' mo' T' c (fun i => if i ∈ B.take k.toNat then 0 else d i) (B.drop k.toNat) /\ now' = now /\ bu' = bu /\ mo' = mo /\ e = 0 /\ dc v = (B.take k.toNat).map (fun i : Nat => [(i : Int)]) /\ le' = le - ((B.take k.toNat).length : Int) /\ (NN (dc T) -> NN (dc T') /\ lvSum (dc T') c.toNat <= lvSum (dc T) c.toNat) := by
 obtain ⟨o0, o1, o2, o3, o4, o5, o6, o7, _⟩ := ho
 have w : WS S now bu le mo T now bu le mo (dc S, dc T) := by
  obtain ⟨Q, ok, _⟩ := h.ok
  have := h.mb
  exact ⟨rfl, rfl, rfl, rfl, rfl, rfl, ⟨Q, ok⟩, by omega⟩
 have hc := h.cp
 obtain ⟨s, hv, he⟩ := w.take hk o0 o1 o2 o3 o4 o5 o6 o7
 obtain ⟨Q, ok, hB⟩ := h.ok
 obtain ⟨Q', t1, t2, t3, t4, t5, t6⟩ := KO k.toNat (dc S, dc T) Q le _ ok
 rw [hB] at t2 t3 t5 t6
 obtain ⟨e1, e2, e3, e4, hs, ht, _, _⟩ := s
 have hl : (tkN now k.toNat (dc S, dc T)).2.length = (B.take k.toNat).length := by rw [t2, List.length_map]
 refine ⟨?_, e1, e2, e4, he, hv.trans t2, by rw [e3, hl], fun hn => by
  rw [ht, show c.toNat = (dc T).length by omega]
  exact UZ k.toNat (dc S, dc T) Q le _ ok hn⟩
 rw [e1, e2, e4]
 refine ⟨⟨Q', ?_, t3⟩, h.mb, ?_, fun y hy => ?_, ?_⟩
 ·rw [hs, ht, e3]; exact t1
 ·rw [ht, <- hc]; exact congrArg Int.ofNat t4
 ·rw [ht]
  by_cases hm : y ∈ B.take k.toNat
  ·rw [if_pos hm]; exact t6 y hm
  ·rw [if_neg hm, <- h.dl y hy]; exact (t5 y hm).2.2
 ·refine JE (d := d) (fun y hy => ?_) (h.sr.sublist (List.drop_sublist ..))
  refine if_neg fun hm => ?_
  have hn := h.nd
  rw [<- List.take_append_drop k.toNat B, List.nodup_append] at hn
  exact hn.2.2 y hm y hy rfl
theorem WV.new {S' now' bu' le' mo' T' n c b : Int} (h : newW n c b)
 (ho : Aj e13.fn [n, c, b] 0 [.x, .i .i64, .i .i64, .i .i64, .i .i64, .x] [S', now', bu', le', mo', T']) :
 WV S' now' bu' le' mo' T' c (fun _ => 0) [] /\ now' = n /\ bu' = b /\ le' = 0 /\ mo' = 0 /\ dc T' = Tn c := by
 obtain ⟨o0, o1, o2, o3, o4, o5, _⟩ := ho
 have w := WS.new h o0 o1 o2 o3 o4 o5
 have hh := h
 obtain ⟨_, h2, h3, _⟩ := hh
 obtain ⟨rfl, rfl, rfl, rfl, hs, ht, _, _⟩ := w
 refine ⟨⟨⟨fun _ => [], ?_, rfl⟩, by decide, ?_, fun y hy => ?_, List.Pairwise.nil⟩, rfl, rfl, rfl, rfl, ht⟩
 ·rw [hs, ht]; exact WOK.new h (Int.mul_nonneg (by omega) (by omega))
 ·rw [ht]
  show ((List.replicate c.toNat [0, 0, 0, 0, 0] : RL).length : Int) = c
  rw [List.length_replicate]; omega
 ·rw [ht]; exact Lt c y 4
end
def lzS : Sh := .obj 49 [wsh, i64, i64, i64, lio]
def lzO : Ob := { j := 0, ty := 49, cs := [.ref 1, i64, i64, i64, lio] }
def wobL : Ob := { j := 1, ty := 102, tl := some k3, cs := [.sc .x, i64, i64, i64, i64, ltm] }
def DZ (xs : List Int) : RL := dc (env xs 9)
def lenD (xs : List Int) : Int := ((DZ xs).length : Int)
def kpZ : List Nat := [0, 1, 2, 3]
def f36 (_ : Nat) (xs : List Int) : Int := b2i (decide (0 <= env xs 10) && decide (env xs 10 < lenD xs))
def z34 : Ent := ⟨334, 34, [lzS], [], kpZ, .lt .b 0, z0, T0⟩
def z36 : Ent := ⟨336, 36, [lzS, i64], [], kpZ, bS, f36, fun xs => lenD xs <= 4096⟩
def z16 : Ent := ⟨316, 16, [lzS], [], kpZ, i64, fun _ xs => env xs 1, lenOK⟩
def z15 : Ent := ⟨315, 15, [lzS], [], kpZ, i64, fun _ xs => env xs 7, T0⟩
def z17 : Ent := ⟨317, 17, [lzS], [], kpZ, i64, fun _ xs => env xs 8, T0⟩
def pre23z (xs : List Int) : Prop := lenOK xs /\ rowsOK k3 (SW xs) /\ (SW xs).length = 2049
def z23 : Ent := ⟨323, 23, [lzS], [], kpZ, i64, fun _ xs => gC (SW xs) 2048 2, pre23z⟩
abbrev riT (xs : List Int) : Prop := 0 <= env xs 10 /\ env xs 10 < lenT xs
def fn22z (j : Nat) (xs : List Int) : Int := match j with
 | 0 => if riT xs then gC (TW xs) (env xs 10).toNat 4 else 0
 | _ => b2i (decide (riT xs) && decide (gC (TW xs) (env xs 10).toNat 4 ≠ 0))
def z22 : Ent := ⟨322, 22, [lzS, i64], [], kpZ, .tup [i64, bS], fn22z, preR⟩
def cZ0 : Ctx := ⟨[], []⟩
def cZ1 : Ctx := ⟨[z34, z36, e18, e16, e29], []⟩
def cZ1n : Ctx := cZ1.nm
def U0 : E := (.lit .b 1)
def Xk : List E := []
theorem Xl : evE Try.prog G0 (Af cZ0.fs) (ltOf cZ0.ls) 40 10 z34 = some (U0, Xk) := by kernel_rfl
def Qs : E := (.lit .b 1)
def U1 : List E := [(.and (.cmp .geq (vI 10) (lI 0)) (.cmp .lss (vI 10) (aI 0 0 [(vX 9)])))]
theorem Xm : evE Try.prog G0 (Af cZ0.fs) (ltOf cZ0.ls) 40 10 z36 = some (Qs, U1) := by kernel_rfl
def Qt : List (Nat × E) := [(640000115200256, (aI 100000018 0 [(vX 0), (vI 1), (vI 2), (vI 3), (vI 4), (vX 5)]))]
def Qu : E := (.and (.app .b 100000334 1000000 [(vX 0), (vI 1), (vI 2), (vI 3), (vI 4), (vX 5), (vI 6), (vI 7), (vI 8), (vX 9)]) (.and (.app .b 100000018 1000000 [(vX 0), (vI 1), (vI 2), (vI 3), (vI 4), (vX 5)]) (dE Qt 0 1)))
def U2 : List E := [(vI 640000115200256)]
theorem Xn : evE Try.prog G0 (Af cZ1n.fs) (ltOf cZ1n.ls) 40 10 z16 = some (Qu, U2) := by kernel_rfl
def Qv : E := (.app .b 100000334 1000000 [(vX 0), (vI 1), (vI 2), (vI 3), (vI 4), (vX 5), (vI 6), (vI 7), (vI 8), (vX 9)])
def U3 : List E := [(vI 7)]
theorem Xo : evE Try.prog G0 (Af cZ1n.fs) (ltOf cZ1n.ls) 40 10 z15 = some (Qv, U3) := by kernel_rfl
def Qw : E := (.app .b 100000334 1000000 [(vX 0), (vI 1), (vI 2), (vI 3), (vI 4), (vX 5), (vI 6), (vI 7), (vI 8), (vX 9)])
def U4 : List E := [(vI 8)]
theorem Xp : evE Try.prog G0 (Af cZ1n.fs) (ltOf cZ1n.ls) 40 10 z17 = some (Qw, U4) := by kernel_rfl
def Qx : List (Nat × E) := [(640000102400256, (aI 100000016 0 [(vX 0), (vI 1), (vI 2), (vI 3), (vI 4), (vX 5)]))]
def Qy : E := (.and (.app .b 100000334 1000000 [(vX 0), (vI 1), (vI 2), (vI 3), (vI 4), (vX 5), (vI 6), (vI 7), (vI 8), (vX 9)]) (.and (.app .b 100000016 1000000 [(vX 0), (vI 1), (vI 2), (vI 3), (vI 4), (vX 5)]) (dE Qx 0 1)))
def U5 : List E := [(vI 640000102400256)]
theorem Xq : evE Try.prog G0 (Af cZ1n.fs) (ltOf cZ1n.ls) 40 10 z23 = some (Qy, U5) := by kernel_rfl
def N4 : List E := [(vX 0), (vI 1), (vI 2), (vI 3), (vI 4), (vX 5), (vI 10)]
def Qz : List (Nat × E) := [(640000185600256, (aI 100000029 0 N4)),
 (640000185600257, (.app .b 100000029 1 N4))]
def QA : E := (.and (.app .b 100000334 1000000 [(vX 0), (vI 1), (vI 2), (vI 3), (vI 4), (vX 5), (vI 6), (vI 7), (vI 8), (vX 9)]) (.and (.app .b 100000029 1000000 [(vX 0), (vI 1), (vI 2), (vI 3), (vI 4), (vX 5), (vI 10)]) (dE Qz 0 2)))
def U6 : List E := [(vI 640000185600256), (.var .b 640000185600257)]
theorem Xr : evE Try.prog G0 (Af cZ1n.fs) (ltOf cZ1n.ls) 40 10 z22 = some (QA, U6) := by kernel_rfl
theorem V5 : cZ0.OK Try.prog G0 := Ctx.OK.nil
theorem S7 : EntryOK Try.prog G0 z34 := V5.entryP mixed Xl _ rfl _ rfl fun xs hf hp => by
 obtain ⟨l, hl, hF⟩ := AN (l0 := cZ0.l)
 show U0.tt cZ0.l.F _ = true /\ Aq z34.fn _ cZ0.l.F _ _ _ _
 rw [hl]
 refine ⟨rfl, trivial⟩
theorem Xs {k1 k2 k3 k4 k5 k6 k7 k8 k9 k10 k11 : K} {xs : List Int} (h : fits [k1, k2, k3, k4, k5, k6, k7, k8, k9, k10, k11] xs) : ∃ a b c d e f g i j k l, xs = [a, b, c, d, e, f, g, i, j, k, l] := by
 have := Ao h
 match xs, this with
 | [a, b, c, d, e, f, g, i, j, k, l], _ => exact ⟨a, b, c, d, e, f, g, i, j, k, l, rfl⟩
theorem V6 : EntryOK Try.prog G0 z36 := V5.entryP mixed Xm _ rfl _ rfl fun xs hf hp => by
 obtain ⟨l, hl, hF⟩ := AN (l0 := cZ0.l)
 show Qs.tt cZ0.l.F _ = true /\ Aq z36.fn _ cZ0.l.F _ _ _ _
 rw [hl]
 obtain ⟨S, now, bu, le, mo, T, h, ln, vn, D, i, rfl⟩ := Xs hf
 obtain ⟨h0, h1, h2, h3, h4, h5, h6, h7, h8, h9, h10, _⟩ := hf
 simp only [Ad, A0] at h10
 replace hp : ((dc D).length : Int) <= 4096 := hp
 refine ⟨?_, ?_, trivial⟩
 all_goals simp (disch := omega) only [Qs, U1, z36, f36, lenD, DZ, ewA, ewL, preC, binI, dvI, shI, cmpB, env, bi, List.headD, List.tail, List.map, Nat.reduceAdd, ewB, ewM, if_true, if_false, implies_true, forall_const, ne_eq, reduceCtorEq, Int.reduceEq, Int.reduceLT, Int.reduceLE, Int.reduceToNat, Int.reduceAdd, Int.reduceSub, Int.reduceMul, Int.reduceNeg, Int.reduceBEq, Nat.reduceLT, Nat.reduceEqDiff, h10]
theorem Ny : cZ1.OK Try.prog G0 := ((((Ctx.OK.nil.addF ok29 rfl).addF ok16 rfl).addF ok18 rfl).addF V6 rfl).addF S7 rfl
theorem okz16 : EntryOK Try.prog G0 z16 := Ny.nm.entryR mixed Xn _ rfl _ rfl fun xs hf hp => by
 obtain ⟨l, hl, hF⟩ := AN (l0 := cZ1n.l)
 show ∃ ρ : Nat -> Int, _ /\ Qu.tt cZ1n.l.F ρ = true /\ Aq z16.fn _ cZ1n.l.F ρ _ _ _
 rw [hl]
 have F18 := FC (k := 100000018) rfl (hF e18.nm (by rfl) (by decide))
 have F334 := FC (k := 100000334) rfl (hF z34.nm (by rfl) (by decide))
 replace hf : fits [.x, kJ, kJ, kJ, kJ, .x, kJ, kJ, kJ, .x] xs := hf
 obtain ⟨S, xs0, hx0, hS, hf0⟩ := Aa hf
 obtain ⟨now, xs1, hx1, hnow, hf1⟩ := Aa hf0
 obtain ⟨bu, xs2, hx2, hbu, hf2⟩ := Aa hf1
 obtain ⟨le, xs3, hx3, hle, hf3⟩ := Aa hf2
 obtain ⟨mo, xs4, hx4, hmo, hf4⟩ := Aa hf3
 obtain ⟨T, xs5, hx5, hT, hf5⟩ := Aa hf4
 obtain ⟨h, xs6, hx6, hh, hf6⟩ := Aa hf5
 obtain ⟨ln, xs7, hx7, hln, hf7⟩ := Aa hf6
 obtain ⟨vn, xs8, hx8, hvn, hf8⟩ := Aa hf7
 obtain ⟨D, xs9, hx9, hD, hf9⟩ := Aa hf8
 have hxn := AV hf9
 subst hxn hx9 hx8 hx7 hx6 hx5 hx4 hx3 hx2 hx1 hx0
 simp only [Ad] at hnow hbu hle hmo hh hln hvn
 obtain ⟨ρ, hρ, hd⟩ := solve (F := l.F) 10 Qt (by kernel_rfl) [S, now, bu, le, mo, T, h, ln, vn, D]
 have hDf := EA (by kernel_rfl) hd
 refine ⟨ρ, hρ, ?_⟩
 have r0 : ρ 0 = S := hρ 0 (by decide)
 have r1 : ρ 1 = now := hρ 1 (by decide)
 have r2 : ρ 2 = bu := hρ 2 (by decide)
 have r3 : ρ 3 = le := hρ 3 (by decide)
 have r4 : ρ 4 = mo := hρ 4 (by decide)
 have r5 : ρ 5 = T := hρ 5 (by decide)
 have r6 : ρ 6 = h := hρ 6 (by decide)
 have r7 : ρ 7 = ln := hρ 7 (by decide)
 have r8 : ρ 8 = vn := hρ 8 (by decide)
 have r9 : ρ 9 = D := hρ 9 (by decide)
 obtain ⟨v1, hv1, hd1, hn1⟩ := nmd hd 0 rfl
 simp only [Ad] at hn1
 simp (disch := omega) only [Ad, F18, Ent.nm_fn, r0, r1, hnow, r2, hbu, r3, hle, r4, hmo, r5, r6, hh, r7, hln, r8, hvn, r9, hv1, hn1, ewA, ewL, preC, binI, dvI, shI, cmpB, env, bi, List.headD, List.tail, List.map, Nat.reduceAdd, ewB, ewM, if_true, if_false, implies_true, forall_const, ne_eq, reduceCtorEq, Int.reduceEq, Int.reduceLT, Int.reduceLE, Int.reduceToNat, Int.reduceAdd, Int.reduceSub, Int.reduceMul, Int.reduceNeg, Int.reduceBEq, Nat.reduceLT, Nat.reduceEqDiff] at hd1
 have hSS := Jj (Jj (Jj (Jj F18 F334) (Jj r0 (Jj r1 hnow))) (Jj (Jj r2 (Jj hbu r3)) (Jj hle (Jj r4 hmo)))) (Jj (Jj (Jj r5 r6) (Jj hh (Jj r7 hln))) (Jj (Jj r8 (Jj hvn r9)) (Jj hv1 (Jj hn1 hDf))))
 have y : e18.pre [S, now, bu, le, mo, T] := hp
 have z : v1 = now := hd1.trans hnow
 have y34 : z34.pre [S, now, bu, le, mo, T, h, ln, vn, D] := trivial
 refine ⟨?_, ?_, trivial⟩
 all_goals simp (disch := omega) only [Qu, U2, z16, ewA, ewL, preC, binI, dvI, shI, cmpB, env, bi, List.headD, List.tail, List.map, Nat.reduceAdd, ewB, ewM, if_true, if_false, implies_true, forall_const, ne_eq, reduceCtorEq, Int.reduceEq, Int.reduceLT, Int.reduceLE, Int.reduceToNat, Int.reduceAdd, Int.reduceSub, Int.reduceMul, Int.reduceNeg, Int.reduceBEq, Nat.reduceLT, Nat.reduceEqDiff, hSS, y, y34, z]
theorem S8 : EntryOK Try.prog G0 z15 := Ny.nm.entryR mixed Xo _ rfl _ rfl fun xs hf hp => by
 obtain ⟨l, hl, hF⟩ := AN (l0 := cZ1n.l)
 show ∃ ρ : Nat -> Int, _ /\ Qv.tt cZ1n.l.F ρ = true /\ Aq z15.fn _ cZ1n.l.F ρ _ _ _
 rw [hl]
 have F334 := FC (k := 100000334) rfl (hF z34.nm (by rfl) (by decide))
 replace hf : fits [.x, kJ, kJ, kJ, kJ, .x, kJ, kJ, kJ, .x] xs := hf
 obtain ⟨S, xs0, hx0, hS, hf0⟩ := Aa hf
 obtain ⟨now, xs1, hx1, hnow, hf1⟩ := Aa hf0
 obtain ⟨bu, xs2, hx2, hbu, hf2⟩ := Aa hf1
 obtain ⟨le, xs3, hx3, hle, hf3⟩ := Aa hf2
 obtain ⟨mo, xs4, hx4, hmo, hf4⟩ := Aa hf3
 obtain ⟨T, xs5, hx5, hT, hf5⟩ := Aa hf4
 obtain ⟨h, xs6, hx6, hh, hf6⟩ := Aa hf5
 obtain ⟨ln, xs7, hx7, hln, hf7⟩ := Aa hf6
 obtain ⟨vn, xs8, hx8, hvn, hf8⟩ := Aa hf7
 obtain ⟨D, xs9, hx9, hD, hf9⟩ := Aa hf8
 have hxn := AV hf9
 subst hxn hx9 hx8 hx7 hx6 hx5 hx4 hx3 hx2 hx1 hx0
 simp only [Ad] at hnow hbu hle hmo hh hln hvn
 obtain ⟨ρ, hρ⟩ : ∃ ρ : Nat -> Int, ∀ i_, i_ < 10 -> ρ i_ = env [S, now, bu, le, mo, T, h, ln, vn, D] i_ := ⟨env [S, now, bu, le, mo, T, h, ln, vn, D], fun _ _ => rfl⟩
 refine ⟨ρ, hρ, ?_⟩
 have r0 : ρ 0 = S := hρ 0 (by decide)
 have r1 : ρ 1 = now := hρ 1 (by decide)
 have r2 : ρ 2 = bu := hρ 2 (by decide)
 have r3 : ρ 3 = le := hρ 3 (by decide)
 have r4 : ρ 4 = mo := hρ 4 (by decide)
 have r5 : ρ 5 = T := hρ 5 (by decide)
 have r6 : ρ 6 = h := hρ 6 (by decide)
 have r7 : ρ 7 = ln := hρ 7 (by decide)
 have r8 : ρ 8 = vn := hρ 8 (by decide)
 have r9 : ρ 9 = D := hρ 9 (by decide)
 have hSS := Jj (Jj (Jj (Jj F334 r0) (Jj r1 hnow)) (Jj (Jj r2 hbu) (Jj r3 (Jj hle r4)))) (Jj (Jj (Jj hmo r5) (Jj r6 hh)) (Jj (Jj r7 hln) (Jj r8 (Jj hvn r9))))
 have y34 : z34.pre [S, now, bu, le, mo, T, h, ln, vn, D] := trivial
 refine ⟨?_, ?_, trivial⟩
 all_goals simp (disch := omega) only [Qv, U3, z15, ewA, ewL, preC, binI, dvI, shI, cmpB, env, bi, List.headD, List.tail, List.map, Nat.reduceAdd, ewB, ewM, if_true, if_false, implies_true, forall_const, ne_eq, reduceCtorEq, Int.reduceEq, Int.reduceLT, Int.reduceLE, Int.reduceToNat, Int.reduceAdd, Int.reduceSub, Int.reduceMul, Int.reduceNeg, Int.reduceBEq, Nat.reduceLT, Nat.reduceEqDiff, hSS, y34]
theorem okz17 : EntryOK Try.prog G0 z17 := Ny.nm.entryR mixed Xp _ rfl _ rfl fun xs hf hp => by
 obtain ⟨l, hl, hF⟩ := AN (l0 := cZ1n.l)
 show ∃ ρ : Nat -> Int, _ /\ Qw.tt cZ1n.l.F ρ = true /\ Aq z17.fn _ cZ1n.l.F ρ _ _ _
 rw [hl]
 have F334 := FC (k := 100000334) rfl (hF z34.nm (by rfl) (by decide))
 replace hf : fits [.x, kJ, kJ, kJ, kJ, .x, kJ, kJ, kJ, .x] xs := hf
 obtain ⟨S, xs0, hx0, hS, hf0⟩ := Aa hf
 obtain ⟨now, xs1, hx1, hnow, hf1⟩ := Aa hf0
 obtain ⟨bu, xs2, hx2, hbu, hf2⟩ := Aa hf1
 obtain ⟨le, xs3, hx3, hle, hf3⟩ := Aa hf2
 obtain ⟨mo, xs4, hx4, hmo, hf4⟩ := Aa hf3
 obtain ⟨T, xs5, hx5, hT, hf5⟩ := Aa hf4
 obtain ⟨h, xs6, hx6, hh, hf6⟩ := Aa hf5
 obtain ⟨ln, xs7, hx7, hln, hf7⟩ := Aa hf6
 obtain ⟨vn, xs8, hx8, hvn, hf8⟩ := Aa hf7
 obtain ⟨D, xs9, hx9, hD, hf9⟩ := Aa hf8
 have hxn := AV hf9
 subst hxn hx9 hx8 hx7 hx6 hx5 hx4 hx3 hx2 hx1 hx0
 simp only [Ad] at hnow hbu hle hmo hh hln hvn
 obtain ⟨ρ, hρ⟩ : ∃ ρ : Nat -> Int, ∀ i_, i_ < 10 -> ρ i_ = env [S, now, bu, le, mo, T, h, ln, vn, D] i_ := ⟨env [S, now, bu, le, mo, T, h, ln, vn, D], fun _ _ => rfl⟩
 refine ⟨ρ, hρ, ?_⟩
 have r0 : ρ 0 = S := hρ 0 (by decide)
 have r1 : ρ 1 = now := hρ 1 (by decide)
 have r2 : ρ 2 = bu := hρ 2 (by decide)
 have r3 : ρ 3 = le := hρ 3 (by decide)
 have r4 : ρ 4 = mo := hρ 4 (by decide)
 have r5 : ρ 5 = T := hρ 5 (by decide)
 have r6 : ρ 6 = h := hρ 6 (by decide)
 have r7 : ρ 7 = ln := hρ 7 (by decide)
 have r8 : ρ 8 = vn := hρ 8 (by decide)
 have r9 : ρ 9 = D := hρ 9 (by decide)
 have hSS := Jj (Jj (Jj (Jj F334 r0) (Jj r1 hnow)) (Jj (Jj r2 hbu) (Jj r3 (Jj hle r4)))) (Jj (Jj (Jj hmo r5) (Jj r6 hh)) (Jj (Jj r7 hln) (Jj r8 (Jj hvn r9))))
 have y34 : z34.pre [S, now, bu, le, mo, T, h, ln, vn, D] := trivial
 refine ⟨?_, ?_, trivial⟩
 all_goals simp (disch := omega) only [Qw, U4, z17, ewA, ewL, preC, binI, dvI, shI, cmpB, env, bi, List.headD, List.tail, List.map, Nat.reduceAdd, ewB, ewM, if_true, if_false, implies_true, forall_const, ne_eq, reduceCtorEq, Int.reduceEq, Int.reduceLT, Int.reduceLE, Int.reduceToNat, Int.reduceAdd, Int.reduceSub, Int.reduceMul, Int.reduceNeg, Int.reduceBEq, Nat.reduceLT, Nat.reduceEqDiff, hSS, y34]
theorem V7 : EntryOK Try.prog G0 z23 := Ny.nm.entryR mixed Xq _ rfl _ rfl fun xs hf hp => by
 obtain ⟨l, hl, hF⟩ := AN (l0 := cZ1n.l)
 show ∃ ρ : Nat -> Int, _ /\ Qy.tt cZ1n.l.F ρ = true /\ Aq z23.fn _ cZ1n.l.F ρ _ _ _
 rw [hl]
 have F16 := FC (k := 100000016) rfl (hF e16.nm (by rfl) (by decide))
 have F334 := FC (k := 100000334) rfl (hF z34.nm (by rfl) (by decide))
 replace hf : fits [.x, kJ, kJ, kJ, kJ, .x, kJ, kJ, kJ, .x] xs := hf
 obtain ⟨S, xs0, hx0, hS, hf0⟩ := Aa hf
 obtain ⟨now, xs1, hx1, hnow, hf1⟩ := Aa hf0
 obtain ⟨bu, xs2, hx2, hbu, hf2⟩ := Aa hf1
 obtain ⟨le, xs3, hx3, hle, hf3⟩ := Aa hf2
 obtain ⟨mo, xs4, hx4, hmo, hf4⟩ := Aa hf3
 obtain ⟨T, xs5, hx5, hT, hf5⟩ := Aa hf4
 obtain ⟨h, xs6, hx6, hh, hf6⟩ := Aa hf5
 obtain ⟨ln, xs7, hx7, hln, hf7⟩ := Aa hf6
 obtain ⟨vn, xs8, hx8, hvn, hf8⟩ := Aa hf7
 obtain ⟨D, xs9, hx9, hD, hf9⟩ := Aa hf8
 have hxn := AV hf9
 subst hxn hx9 hx8 hx7 hx6 hx5 hx4 hx3 hx2 hx1 hx0
 simp only [Ad] at hnow hbu hle hmo hh hln hvn
 obtain ⟨ρ, hρ, hd⟩ := solve (F := l.F) 10 Qx (by kernel_rfl) [S, now, bu, le, mo, T, h, ln, vn, D]
 have hDf := EA (by kernel_rfl) hd
 refine ⟨ρ, hρ, ?_⟩
 have r0 : ρ 0 = S := hρ 0 (by decide)
 have r1 : ρ 1 = now := hρ 1 (by decide)
 have r2 : ρ 2 = bu := hρ 2 (by decide)
 have r3 : ρ 3 = le := hρ 3 (by decide)
 have r4 : ρ 4 = mo := hρ 4 (by decide)
 have r5 : ρ 5 = T := hρ 5 (by decide)
 have r6 : ρ 6 = h := hρ 6 (by decide)
 have r7 : ρ 7 = ln := hρ 7 (by decide)
 have r8 : ρ 8 = vn := hρ 8 (by decide)
 have r9 : ρ 9 = D := hρ 9 (by decide)
 obtain ⟨v1, hv1, hd1, hn1⟩ := nmd hd 0 rfl
 simp only [Ad] at hn1
 simp (disch := omega) only [Ad, F16, Ent.nm_fn, r0, r1, hnow, r2, hbu, r3, hle, r4, hmo, r5, r6, hh, r7, hln, r8, hvn, r9, hv1, hn1, ewA, ewL, preC, binI, dvI, shI, cmpB, env, bi, List.headD, List.tail, List.map, Nat.reduceAdd, ewB, ewM, if_true, if_false, implies_true, forall_const, ne_eq, reduceCtorEq, Int.reduceEq, Int.reduceLT, Int.reduceLE, Int.reduceToNat, Int.reduceAdd, Int.reduceSub, Int.reduceMul, Int.reduceNeg, Int.reduceBEq, Nat.reduceLT, Nat.reduceEqDiff] at hd1
 have hSS := Jj (Jj (Jj (Jj F16 F334) (Jj r0 (Jj r1 hnow))) (Jj (Jj r2 (Jj hbu r3)) (Jj hle (Jj r4 hmo)))) (Jj (Jj (Jj r5 r6) (Jj hh (Jj r7 hln))) (Jj (Jj r8 (Jj hvn r9)) (Jj hv1 (Jj hn1 hDf))))
 have y : e16.pre [S, now, bu, le, mo, T] := hp
 have y34 : z34.pre [S, now, bu, le, mo, T, h, ln, vn, D] := trivial
 refine ⟨?_, ?_, trivial⟩
 all_goals simp (disch := omega) only [Qy, U5, z23, ewA, ewL, preC, binI, dvI, shI, cmpB, env, bi, List.headD, List.tail, List.map, Nat.reduceAdd, ewB, ewM, if_true, if_false, implies_true, forall_const, ne_eq, reduceCtorEq, Int.reduceEq, Int.reduceLT, Int.reduceLE, Int.reduceToNat, Int.reduceAdd, Int.reduceSub, Int.reduceMul, Int.reduceNeg, Int.reduceBEq, Nat.reduceLT, Nat.reduceEqDiff, hSS, y, y34]
 exact hd1.symm
theorem okz22 : EntryOK Try.prog G0 z22 := Ny.nm.entryR mixed Xr _ rfl _ rfl fun xs hf hp => by
 obtain ⟨l, hl, hF⟩ := AN (l0 := cZ1n.l)
 show ∃ ρ : Nat -> Int, _ /\ QA.tt cZ1n.l.F ρ = true /\ Aq z22.fn _ cZ1n.l.F ρ _ _ _
 rw [hl]
 have F29 := FC (k := 100000029) rfl (hF e29.nm (by rfl) (by decide))
 have F334 := FC (k := 100000334) rfl (hF z34.nm (by rfl) (by decide))
 replace hf : fits [.x, kJ, kJ, kJ, kJ, .x, kJ, kJ, kJ, .x, kJ] xs := hf
 obtain ⟨S, xs0, hx0, hS, hf0⟩ := Aa hf
 obtain ⟨now, xs1, hx1, hnow, hf1⟩ := Aa hf0
 obtain ⟨bu, xs2, hx2, hbu, hf2⟩ := Aa hf1
 obtain ⟨le, xs3, hx3, hle, hf3⟩ := Aa hf2
 obtain ⟨mo, xs4, hx4, hmo, hf4⟩ := Aa hf3
 obtain ⟨T, xs5, hx5, hT, hf5⟩ := Aa hf4
 obtain ⟨h, xs6, hx6, hh, hf6⟩ := Aa hf5
 obtain ⟨ln, xs7, hx7, hln, hf7⟩ := Aa hf6
 obtain ⟨vn, xs8, hx8, hvn, hf8⟩ := Aa hf7
 obtain ⟨D, xs9, hx9, hD, hf9⟩ := Aa hf8
 obtain ⟨i, xs10, hx10, hi, hf10⟩ := Aa hf9
 have hxn := AV hf10
 subst hxn hx10 hx9 hx8 hx7 hx6 hx5 hx4 hx3 hx2 hx1 hx0
 simp only [Ad] at hnow hbu hle hmo hh hln hvn hi
 obtain ⟨ρ, hρ, hd⟩ := solve (F := l.F) 11 Qz (by kernel_rfl) [S, now, bu, le, mo, T, h, ln, vn, D, i]
 have hDf := EA (by kernel_rfl) hd
 refine ⟨ρ, hρ, ?_⟩
 have r0 : ρ 0 = S := hρ 0 (by decide)
 have r1 : ρ 1 = now := hρ 1 (by decide)
 have r2 : ρ 2 = bu := hρ 2 (by decide)
 have r3 : ρ 3 = le := hρ 3 (by decide)
 have r4 : ρ 4 = mo := hρ 4 (by decide)
 have r5 : ρ 5 = T := hρ 5 (by decide)
 have r6 : ρ 6 = h := hρ 6 (by decide)
 have r7 : ρ 7 = ln := hρ 7 (by decide)
 have r8 : ρ 8 = vn := hρ 8 (by decide)
 have r9 : ρ 9 = D := hρ 9 (by decide)
 have r10 : ρ 10 = i := hρ 10 (by decide)
 obtain ⟨⟨v1, hv1, hd1, hn1⟩, ⟨v2, hv2, hd2, hn2⟩⟩ := Jj (nmd hd 0 rfl) (nmd hd 1 rfl)
 simp only [Ad] at hn1
 simp (disch := omega) only [Ad, N4, F29, Ent.nm_fn, r0, r1, hnow, r2, hbu, r3, hle, r4, hmo, r5, r6, hh, r7, hln, r8, hvn, r9, r10, hi, hv1, hn1, hv2, hn2, ewA, ewL, preC, binI, dvI, shI, cmpB, env, bi, List.headD, List.tail, List.map, Nat.reduceAdd, ewB, ewM, if_true, if_false, implies_true, forall_const, ne_eq, reduceCtorEq, Int.reduceEq, Int.reduceLT, Int.reduceLE, Int.reduceToNat, Int.reduceAdd, Int.reduceSub, Int.reduceMul, Int.reduceNeg, Int.reduceBEq, Nat.reduceLT, Nat.reduceEqDiff] at hd1 hd2
 have hSS := Jj (Jj (Jj (Jj F29 (Jj F334 r0)) (Jj r1 (Jj hnow r2))) (Jj (Jj hbu (Jj r3 hle)) (Jj (Jj r4 hmo) (Jj r5 r6)))) (Jj (Jj (Jj hh (Jj r7 hln)) (Jj r8 (Jj hvn r9))) (Jj (Jj r10 (Jj hi hv1)) (Jj (Jj hn1 hv2) (Jj hn2 hDf))))
 have y : e29.pre [S, now, bu, le, mo, T, i] := hp
 have y34 : z34.pre [S, now, bu, le, mo, T, h, ln, vn, D] := trivial
 refine ⟨?_, ?_, ?_, trivial⟩
 all_goals simp (disch := omega) only [QA, U6, z22, ewA, ewL, preC, binI, dvI, shI, cmpB, env, bi, List.headD, List.tail, List.map, Nat.reduceAdd, ewB, ewM, if_true, if_false, implies_true, forall_const, ne_eq, reduceCtorEq, Int.reduceEq, Int.reduceLT, Int.reduceLE, Int.reduceToNat, Int.reduceAdd, Int.reduceSub, Int.reduceMul, Int.reduceNeg, Int.reduceBEq, Nat.reduceLT, Nat.reduceEqDiff, hSS, y, y34]
 ·exact hd1.symm
 ·exact hd2.symm
section
variable {S now bu le mo T c : Int} {d : Nat -> Int} {B : List Nat}
theorem WV.riW (h : WV S now bu le mo T c d B) {i : Int} {r : List Int} : Ew.riW (S :: now :: bu :: le :: mo :: T :: i :: r) ↔ (0 <= i /\ i < c) := by
 have := h.cp
 show (0 <= i /\ i < ((dc T).length : Int)) ↔ _
 omega
theorem WV.dead (h : WV S now bu le mo T c d B) {i x y : Int} (hi : 0 <= i /\ i < c) (ho : Aj e29.fn [S, now, bu, le, mo, T, i] 0 [.i .i64, .b] [x, y]) : x = d i.toNat /\ y = b2i (decide (d i.toNat ≠ 0)) := by
 obtain ⟨o0, o1, _⟩ := ho
 have hr : Ew.riW [S, now, bu, le, mo, T, i] := h.riW.2 hi
 have e := h.dl i.toNat (by omega)
 have hdr := h.dr (i := i.toNat) (by omega)
 have htm := h.tm
 have f0 : e29.fn 0 [S, now, bu, le, mo, T, i] = d i.toNat := (if_pos hr).trans e
 have f1 : e29.fn 1 [S, now, bu, le, mo, T, i] = b2i (decide (Ew.riW [S, now, bu, le, mo, T, i]) && decide (gC (dc T) i.toNat 4 ≠ 0)) := rfl
 refine ⟨o0.trans ((congrArg IntKind.i64.wrap f0).trans (i64w (by omega) (by omega))), o1.trans ((congrArg K.b.norm f1).trans ?_)⟩
 rw [DY, decide_eq_true hr, Bool.true_and, e]
theorem WV.nowV (h : WV S now bu le mo T c d B) {v : Int} (ho : v = IntKind.i64.wrap (e18.fn 0 [S, now, bu, le, mo, T])) : v = now := by
 have := h.tm
 exact ho.trans (i64w (by show _ <= now; omega) (by show now <= _; omega))
theorem WV.lagV (h : WV S now bu le mo T c d B) {v : Int} (ho : v = IntKind.i64.wrap (e16.fn 0 [S, now, bu, le, mo, T])) : v = (B.length : Int) := by
 have := h.lenB
 have := h.ct
 have e : e16.fn 0 [S, now, bu, le, mo, T] = (B.length : Int) := h.lag
 rw [e] at ho
 exact ho.trans (i64w (by omega) (by omega))
theorem WV.keep (h : WV S now bu le mo T c d B) {S' now' bu' le' mo' T' : Int} (h0 : S' = S) (h1 : now' = IntKind.i64.wrap now) (h2 : bu' = IntKind.i64.wrap bu) (h3 : le' = IntKind.i64.wrap le) (h4 : mo' = IntKind.i64.wrap mo) (h5 : T' = T) : S' = S /\ now' = now /\ bu' = bu /\ le' = le /\ mo' = mo /\ T' = T := by
 have := h.tm; have := h.bg; have := h.ler; have := h.mb
 exact ⟨h0, h1.trans (i64w (by omega) (by omega)), h2.trans (i64w (by omega) (by omega)), h3.trans (i64w (by omega) (by omega)), h4.trans (i64w (by omega) (by omega)), h5⟩
theorem WV.canB {S' now' bu' le' mo' T' e i : Int} (h : WV S now bu le mo T c d B) (hb : ¬ (0 <= i /\ i < c))
 (ho : Aj e24.fn [S, now, bu, le, mo, T, i] 0 [.x, .i .i64, .i .i64, .i .i64, .i .i64, .x, .i .i64] [S', now', bu', le', mo', T', e]) :
 (S' = S /\ now' = now /\ bu' = bu /\ le' = le /\ mo' = mo /\ T' = T) /\ e = 2 := by
 obtain ⟨o0, o1, o2, o3, o4, o5, o6, _⟩ := ho
 have hr : ¬ Ew.riW [S, now, bu, le, mo, T, i] := fun hh => hb (h.riW.1 hh)
 have hn : ¬ (Ew.riW [S, now, bu, le, mo, T, i] /\ gC (dc T) i.toNat 4 ≠ 0) := fun hh => hr hh.1
 exact ⟨h.keep (o0.trans (if_neg hn)) o1 o2 (o3.trans (congrArg _ (if_neg hn))) o4 (o5.trans (if_neg hn)), o6.trans ((congrArg IntKind.i64.wrap (if_neg hr)).trans rfl)⟩
end
end
end Go.Proofs.Ytnockichpnaoeaa.Ew
