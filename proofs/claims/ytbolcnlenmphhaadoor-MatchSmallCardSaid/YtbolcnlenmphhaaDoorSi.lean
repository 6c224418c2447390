/- Layer 26: MatchSmall: the middle and the outer loop. -/
import Derived.Test.YtbolcnlenmphhaaDoorSh
set_option linter.unusedVariables false
set_option linter.unusedSimpArgs false
namespace Go.Proofs.YtbolcnlenmphhaaDoor
open Go Go.RowKit Ew

def rowR : Row := Row.ofKs (ruleK.map kOf)
def pre2 (xs : List Int) : Prop := 0 ≤ xs.getD 0 0 ∧ xs.getD 0 0 ≤ 13 ∧ (dc (xs.getD 1 0)).length = 30
def pre1 (xs : List Int) : Prop := 0 ≤ xs.getD 0 0 ∧ xs.getD 0 0 ≤ xs.getD 1 0 ∧ xs.getD 1 0 = (dc (xs.getD 2 0)).length ∧ xs.getD 1 0 ≤ 1000 ∧ (dc (xs.getD 3 0)).length = 30
def mu2 (xs : List Int) : Nat := (13 - xs.getD 0 0).toNat
def ent2 : Ent := { key := 902, f := 9, ps := [int, numL, .obj 29 ruleL, .obj 33 factsL, .obj 29 ruleL, .obj 29 ruleL], os := [], kp := [1, 2, 3, 4], rs := .tup [], fn := fun _ _ => 0, pre := pre2 }
def le2 : LEnt := { ent := ent2, sl := [29, 4, 6, 3, 1, 2], so := [], wr := [7, 8, 9, 10, 11] ++ (List.range 98).map (· + 29), labs := [.ex 2], nt := 129, shr := [4] }
def ent1 : Ent := { key := 901, f := 9, ps := [int, int, .lst 29 rowR false, numL, .obj 33 factsL, .obj 29 ruleL, .obj 29 ruleL], os := [], kp := [2, 3, 4], rs := .tup [], fn := fun _ _ => 0, pre := pre1 }
def le1 : LEnt := { ent := ent1, sl := [25, 24, 23, 4, 3, 1, 2], so := [], wr := [6, 7, 8, 9, 10, 11] ++ (List.range 103).map (· + 25), labs := [.ex 0], nt := 129, shr := [23, 4] }
def sub2 : List Bool := [true, true, false, false, true, true, false]
def L2 : Loops := fun p => if p = sub2 then some le3 else none
def L1 : Loops := fun p => if p = sub2 then some le2 else none

def ob2 : E := (.and (.or (.not (.cmp .lss (.var (.i .i64) 0) (.lit (.i .i64) 13))) (.app .b 903 1000000 [(.lit (.i .i64) 0), (.app (.i .i64) 0 0 [(.var .x 1)]), (.var .x 1), (.var (.i .u8) 2), (.var (.i .u8) 3), (.var (.i .u8) 4), (.var (.i .u8) 5), (.var (.i .u32) 6), (.var (.i .u8) 7), (.var (.i .u32) 8), (.var (.i .u8) 9), (.var (.i .u16) 10), (.var (.i .u16) 11), (.var (.i .u16) 12), (.var (.i .u16) 13), (.var .b 14), (.var (.i .i64) 0), (.var (.i .u8) 15), (.var (.i .u32) 16), (.var (.i .u32) 17), (.var (.i .u16) 18), (.var (.i .u16) 19), (.var (.i .u8) 20), (.var (.i .u8) 21), (.var (.i .u8) 22), (.var (.i .u8) 23), (.var (.i .u32) 24), (.var (.i .u32) 25), (.var (.i .i64) 26), (.var (.i .i64) 27), (.var (.i .u8) 28), (.var (.i .u32) 29), (.var (.i .u32) 30), (.var (.i .u16) 31), (.var (.i .u16) 32), (.var (.i .u8) 33), (.var (.i .u8) 34), (.var (.i .u8) 35), (.var (.i .u8) 36), (.var (.i .u8) 37), (.var (.i .u32) 38), (.var (.i .u8) 39), (.var (.i .u32) 40), (.var (.i .u8) 41), (.var (.i .u16) 42), (.var (.i .u16) 43), (.var (.i .u16) 44), (.var (.i .u16) 45), (.var .b 46), (.var (.i .u8) 47), (.var (.i .u8) 48), (.var (.i .u8) 49), (.var (.i .u8) 50), (.var (.i .u32) 51), (.var (.i .u8) 52), (.var (.i .u32) 53), (.var (.i .u8) 54), (.var (.i .u16) 55), (.var (.i .u16) 56), (.var (.i .u16) 57), (.var (.i .u16) 58), (.var .b 59), (.var .x 1)])) (.or (.not (.cmp .lss (.var (.i .i64) 0) (.lit (.i .i64) 13))) (.app .b 902 1000000 [(.bin .add .i64 (.var (.i .i64) 0) (.lit (.i .i64) 1)), (.var .x 1), (.var (.i .u8) 2), (.var (.i .u8) 3), (.var (.i .u8) 4), (.var (.i .u8) 5), (.var (.i .u32) 6), (.var (.i .u8) 7), (.var (.i .u32) 8), (.var (.i .u8) 9), (.var (.i .u16) 10), (.var (.i .u16) 11), (.var (.i .u16) 12), (.var (.i .u16) 13), (.var .b 14), (.var (.i .u8) 15), (.var (.i .u32) 16), (.var (.i .u32) 17), (.var (.i .u16) 18), (.var (.i .u16) 19), (.var (.i .u8) 20), (.var (.i .u8) 21), (.var (.i .u8) 22), (.var (.i .u8) 23), (.var (.i .u32) 24), (.var (.i .u32) 25), (.var (.i .i64) 26), (.var (.i .i64) 27), (.var (.i .u8) 28), (.var (.i .u32) 29), (.var (.i .u32) 30), (.var (.i .u16) 31), (.var (.i .u16) 32), (.var (.i .u8) 33), (.var (.i .u8) 34), (.var (.i .u8) 35), (.var (.i .u8) 36), (.var (.i .u8) 37), (.var (.i .u32) 38), (.var (.i .u8) 39), (.var (.i .u32) 40), (.var (.i .u8) 41), (.var (.i .u16) 42), (.var (.i .u16) 43), (.var (.i .u16) 44), (.var (.i .u16) 45), (.var .b 46), (.var (.i .u8) 47), (.var (.i .u8) 48), (.var (.i .u8) 49), (.var (.i .u8) 50), (.var (.i .u32) 51), (.var (.i .u8) 52), (.var (.i .u32) 53), (.var (.i .u8) 54), (.var (.i .u16) 55), (.var (.i .u16) 56), (.var (.i .u16) 57), (.var (.i .u16) 58), (.var .b 59)])))
def ob1 : E := (.and (.or (.not (.cmp .lss (.var (.i .i64) 0) (.var (.i .i64) 1))) (.and (.and (.cmp .geq (.var (.i .i64) 0) (.lit (.i .i64) 0)) (.cmp .lss (.var (.i .i64) 0) (.app (.i .i64) 0 0 [(.var .x 2)]))) (.app .b 902 1000000 [(.lit (.i .i64) 0), (.var .x 3), (.app (.i .u8) 0 1 [(.var .x 2), (.var (.i .i64) 0), (.lit .x 0)]), (.app (.i .u8) 0 1 [(.var .x 2), (.var (.i .i64) 0), (.lit .x 1)]), (.app (.i .u8) 0 1 [(.var .x 2), (.var (.i .i64) 0), (.lit .x 2)]), (.app (.i .u8) 0 1 [(.var .x 2), (.var (.i .i64) 0), (.lit .x 3)]), (.app (.i .u32) 0 1 [(.var .x 2), (.var (.i .i64) 0), (.lit .x 4)]), (.app (.i .u8) 0 1 [(.var .x 2), (.var (.i .i64) 0), (.lit .x 5)]), (.app (.i .u32) 0 1 [(.var .x 2), (.var (.i .i64) 0), (.lit .x 6)]), (.app (.i .u8) 0 1 [(.var .x 2), (.var (.i .i64) 0), (.lit .x 7)]), (.app (.i .u16) 0 1 [(.var .x 2), (.var (.i .i64) 0), (.lit .x 8)]), (.app (.i .u16) 0 1 [(.var .x 2), (.var (.i .i64) 0), (.lit .x 9)]), (.app (.i .u16) 0 1 [(.var .x 2), (.var (.i .i64) 0), (.lit .x 10)]), (.app (.i .u16) 0 1 [(.var .x 2), (.var (.i .i64) 0), (.lit .x 11)]), (.app .b 0 1 [(.var .x 2), (.var (.i .i64) 0), (.lit .x 12)]), (.var (.i .u8) 4), (.var (.i .u32) 5), (.var (.i .u32) 6), (.var (.i .u16) 7), (.var (.i .u16) 8), (.var (.i .u8) 9), (.var (.i .u8) 10), (.var (.i .u8) 11), (.var (.i .u8) 12), (.var (.i .u32) 13), (.var (.i .u32) 14), (.var (.i .i64) 15), (.var (.i .i64) 16), (.var (.i .u8) 17), (.var (.i .u32) 18), (.var (.i .u32) 19), (.var (.i .u16) 20), (.var (.i .u16) 21), (.var (.i .u8) 22), (.var (.i .u8) 23), (.var (.i .u8) 24), (.var (.i .u8) 25), (.var (.i .u8) 26), (.var (.i .u32) 27), (.var (.i .u8) 28), (.var (.i .u32) 29), (.var (.i .u8) 30), (.var (.i .u16) 31), (.var (.i .u16) 32), (.var (.i .u16) 33), (.var (.i .u16) 34), (.var .b 35), (.var (.i .u8) 36), (.var (.i .u8) 37), (.var (.i .u8) 38), (.var (.i .u8) 39), (.var (.i .u32) 40), (.var (.i .u8) 41), (.var (.i .u32) 42), (.var (.i .u8) 43), (.var (.i .u16) 44), (.var (.i .u16) 45), (.var (.i .u16) 46), (.var (.i .u16) 47), (.var .b 48)]))) (.or (.not (.cmp .lss (.var (.i .i64) 0) (.var (.i .i64) 1))) (.app .b 901 1000000 [(.bin .add .i64 (.var (.i .i64) 0) (.lit (.i .i64) 1)), (.var (.i .i64) 1), (.var .x 2), (.var .x 3), (.var (.i .u8) 4), (.var (.i .u32) 5), (.var (.i .u32) 6), (.var (.i .u16) 7), (.var (.i .u16) 8), (.var (.i .u8) 9), (.var (.i .u8) 10), (.var (.i .u8) 11), (.var (.i .u8) 12), (.var (.i .u32) 13), (.var (.i .u32) 14), (.var (.i .i64) 15), (.var (.i .i64) 16), (.var (.i .u8) 17), (.var (.i .u32) 18), (.var (.i .u32) 19), (.var (.i .u16) 20), (.var (.i .u16) 21), (.var (.i .u8) 22), (.var (.i .u8) 23), (.var (.i .u8) 24), (.var (.i .u8) 25), (.var (.i .u8) 26), (.var (.i .u32) 27), (.var (.i .u8) 28), (.var (.i .u32) 29), (.var (.i .u8) 30), (.var (.i .u16) 31), (.var (.i .u16) 32), (.var (.i .u16) 33), (.var (.i .u16) 34), (.var .b 35), (.var (.i .u8) 36), (.var (.i .u8) 37), (.var (.i .u8) 38), (.var (.i .u8) 39), (.var (.i .u32) 40), (.var (.i .u8) 41), (.var (.i .u32) 42), (.var (.i .u8) 43), (.var (.i .u16) 44), (.var (.i .u16) 45), (.var (.i .u16) 46), (.var (.i .u16) 47), (.var .b 48)])))

theorem ev2 : evL Tryd.prog H0 T9 (fun _ _ _ => none) 10 L2 le2 (bodyAt p2) = some (ob2, []) := by kernel_rfl
theorem ev1 : evL Tryd.prog H0 T9 (fun _ _ _ => none) 10 L1 le1 (bodyAt p1) = some (ob1, []) := by kernel_rfl
theorem at3 : codeAt (bodyAt p2) sub2 = some (.loop (bodyAt p3)) := by kernel_rfl
theorem at2 : codeAt (bodyAt p1) sub2 = some (.loop (bodyAt p2)) := by kernel_rfl

theorem ob2_ok (n : Nat) (xs : List Int) (hf : fits ent2.pks xs) (hp : pre2 xs) (hmu : mu2 xs ≤ n) : ob2.tt (Tabs.F (enL le2 mu2 n :: ent3 :: l9)) (env xs) = true := by
  obtain ⟨l, hl⟩ : ∃ l : Tabs, l = enL le2 mu2 n :: ent3 :: l9 := ⟨_, rfl⟩
  rw [← hl]
  obtain ⟨q1, q2, q3⟩ := hp
  have d0 : (E.var (.i .i64) 0).den l.F (env xs) = xs.getD 0 0 := fits_get hf 0 _ rfl
  have L1 : (E.app (.i .i64) 0 0 [.var .x 1]).den l.F (env xs) = 30 := by
    have := BI.len (ρ := env xs) l.BI (.var .x 1)
    rw [show (LEN (.var .x 1)) = E.app (.i .i64) 0 0 [.var .x 1] from rfl] at this
    rw [this, show (E.var .x 1).den l.F (env xs) = xs.getD 1 0 from rfl, q3]
    exact wrap_small (by omega) (by omega)
  have A903 : ∀ args : List E, pre3 (args.map (E.den l.F (env xs))) → (E.app .b 903 1000000 args).tt l.F (env xs) = true := fun args h => tt_pre ent3 rfl (by rw [hl]; rfl) (by decide) h
  have A902 : ∀ args : List E, (pre2 (args.map (E.den l.F (env xs))) ∧ mu2 (args.map (E.den l.F (env xs))) < n) → (E.app .b 902 1000000 args).tt l.F (env xs) = true := fun args h => tt_pre (enL le2 mu2 n) rfl (by rw [hl]; rfl) (by decide) h
  have s1 : ∀ a b : E, (E.bin .add .i64 a b).den l.F (env xs) = IntKind.i64.wrap (a.den l.F (env xs) + b.den l.F (env xs)) := fun a b => rfl
  by_cases hlt : xs.getD 0 0 < 13
  · have c : (E.cmp .lss (.var (.i .i64) 0) (.lit (.i .i64) 13)).tt l.F (env xs) = true := by rw [tt_cmp, d0, show (E.lit (.i .i64) 13).den l.F (env xs) = 13 from rfl]; simpa [cmpB] using hlt
    simp only [ob2, tt_and, tt_or, tt_not, c, Bool.not_true, Bool.false_or, Bool.and_true, Bool.true_and, Bool.and_eq_true]
    have e0 : (E.bin .add .i64 (.var (.i .i64) 0) (.lit (.i .i64) 1)).den l.F (env xs) = xs.getD 0 0 + 1 := by
      rw [s1, d0, show (E.lit (.i .i64) 1).den l.F (env xs) = 1 from rfl]
      exact wrap_small (by omega) (by omega)
    constructor
    · refine A903 _ ⟨?_, ?_, ?_, ?_, ?_, ?_, ?_⟩ <;> simp only [List.map_cons, List.getD_cons_succ, List.getD_cons_zero, d0, L1, show (E.lit (.i .i64) 0).den l.F (env xs) = 0 from rfl, show (E.var .x 1).den l.F (env xs) = xs.getD 1 0 from rfl, q3] <;> omega
    · refine A902 _ ⟨⟨?_, ?_, ?_⟩, ?_⟩ <;> simp only [mu2, List.map_cons, List.getD_cons_succ, List.getD_cons_zero, e0, show (E.var .x 1).den l.F (env xs) = xs.getD 1 0 from rfl, q3] <;> (unfold mu2 at hmu; omega)
  · have c : (E.cmp .lss (.var (.i .i64) 0) (.lit (.i .i64) 13)).tt l.F (env xs) = false := by rw [tt_cmp, d0, show (E.lit (.i .i64) 13).den l.F (env xs) = 13 from rfl]; simpa [cmpB] using hlt
    simp only [ob2, tt_and, tt_or, tt_not, c, Bool.not_false, Bool.true_or, Bool.and_self]

theorem ob1_ok (n : Nat) (xs : List Int) (hf : fits ent1.pks xs) (hp : pre1 xs) (hmu : mu3 xs ≤ n) : ob1.tt (Tabs.F (enL le1 mu3 n :: ent2 :: l9)) (env xs) = true := by
  obtain ⟨l, hl⟩ : ∃ l : Tabs, l = enL le1 mu3 n :: ent2 :: l9 := ⟨_, rfl⟩
  rw [← hl]
  obtain ⟨q1, q2, q3, q4, q5⟩ := hp
  have d0 : (E.var (.i .i64) 0).den l.F (env xs) = xs.getD 0 0 := fits_get hf 0 _ rfl
  have d1 : (E.var (.i .i64) 1).den l.F (env xs) = xs.getD 1 0 := fits_get hf 1 _ rfl
  have L2 : (E.app (.i .i64) 0 0 [.var .x 2]).den l.F (env xs) = xs.getD 1 0 := by
    have := BI.len (ρ := env xs) l.BI (.var .x 2)
    rw [show (LEN (.var .x 2)) = E.app (.i .i64) 0 0 [.var .x 2] from rfl] at this
    rw [this, show (E.var .x 2).den l.F (env xs) = xs.getD 2 0 from rfl, ← q3]
    exact wrap_small (by omega) (by omega)
  have A902 : ∀ args : List E, pre2 (args.map (E.den l.F (env xs))) → (E.app .b 902 1000000 args).tt l.F (env xs) = true := fun args h => tt_pre ent2 rfl (by rw [hl]; rfl) (by decide) h
  have A901 : ∀ args : List E, (pre1 (args.map (E.den l.F (env xs))) ∧ mu3 (args.map (E.den l.F (env xs))) < n) → (E.app .b 901 1000000 args).tt l.F (env xs) = true := fun args h => tt_pre (enL le1 mu3 n) rfl (by rw [hl]; rfl) (by decide) h
  have s1 : ∀ a b : E, (E.bin .add .i64 a b).den l.F (env xs) = IntKind.i64.wrap (a.den l.F (env xs) + b.den l.F (env xs)) := fun a b => rfl
  by_cases hlt : xs.getD 0 0 < xs.getD 1 0
  · have c : (E.cmp .lss (.var (.i .i64) 0) (.var (.i .i64) 1)).tt l.F (env xs) = true := by rw [tt_cmp, d0, d1]; simpa [cmpB] using hlt
    simp only [ob1, tt_and, tt_or, tt_not, c, Bool.not_true, Bool.false_or, Bool.and_true, Bool.true_and, Bool.and_eq_true]
    have e0 : (E.bin .add .i64 (.var (.i .i64) 0) (.lit (.i .i64) 1)).den l.F (env xs) = xs.getD 0 0 + 1 := by
      rw [s1, d0, show (E.lit (.i .i64) 1).den l.F (env xs) = 1 from rfl]
      exact wrap_small (by omega) (by omega)
    repeat' apply And.intro
    all_goals first
      | (rw [tt_cmp]; simp only [d0, L2, cmpB, show (E.lit (.i .i64) 0).den l.F (env xs) = 0 from rfl, decide_eq_true_eq]; omega)
      | (refine A902 _ ⟨?_, ?_, ?_⟩ <;> simp only [List.map_cons, List.getD_cons_succ, List.getD_cons_zero, show (E.lit (.i .i64) 0).den l.F (env xs) = 0 from rfl, show (E.var .x 3).den l.F (env xs) = xs.getD 3 0 from rfl, q5] <;> omega)
      | (refine A901 _ ⟨⟨?_, ?_, ?_, ?_, ?_⟩, ?_⟩ <;> simp only [mu3, List.map_cons, List.getD_cons_succ, List.getD_cons_zero, e0, d1, show (E.var .x 2).den l.F (env xs) = xs.getD 2 0 from rfl, show (E.var .x 3).den l.F (env xs) = xs.getD 3 0 from rfl, q5] <;> (unfold mu3 at hmu; omega))
  · have c : (E.cmp .lss (.var (.i .i64) 0) (.var (.i .i64) 1)).tt l.F (env xs) = false := by rw [tt_cmp, d0, d1]; simpa [cmpB] using hlt
    simp only [ob1, tt_and, tt_or, tt_not, c, Bool.not_false, Bool.true_or, Bool.and_self]

theorem sum9c {e e' : Ent} (h : SumOK Tryd.prog H0 (e' :: l9) T9) (h1 : e.key ≠ 11) (h2 : e.key ≠ 21) (h3 : e.key ≠ 12) (h4 : e.key ≠ 23) : SumOK Tryd.prog H0 (e :: e' :: l9) T9 := by
  intro f x hx
  obtain ⟨a, b, c⟩ := h f x hx
  refine ⟨a, ?_, c⟩
  have hk : e.key ≠ x.key := by
    unfold T9 at hx
    split at hx
    · simp only [List.mem_singleton] at hx; subst hx; exact h1
    · simp only [List.mem_singleton] at hx; subst hx; exact h2
    · simp only [List.mem_singleton] at hx; subst hx; exact h3
    · simp only [List.mem_singleton] at hx; subst hx; exact h4
    · cases hx
  have : (e.key == x.key) = false := by simpa using hk
  rw [← b]
  simp [Tabs.get, this]

theorem lo2 : LoopOK Tryd.prog H0 (bodyAt p2) le2 :=
  loop_ok (T := T9) (l0 := ent3 :: l9) (call := fun _ _ _ => none) (N := 10) (L := L2) (by kernel_rfl) mu2 (fun n => sum9c (e := enL le2 mu2 n) (sum9 (e := ent3) (show (903 : Nat) ≠ 11 by decide) (show (903 : Nat) ≠ 21 by decide) (show (903 : Nat) ≠ 12 by decide) (show (903 : Nat) ≠ 23 by decide)) (show (902 : Nat) ≠ 11 by decide) (show (902 : Nat) ≠ 21 by decide) (show (902 : Nat) ≠ 12 by decide) (show (902 : Nat) ≠ 23 by decide))
    (fun n ρ w0 M0 Im0 hG f args m ob v m' h => by cases h)
    (fun n p le h body hb => by
      unfold L2 at h
      split at h
      · rename_i hp
        subst hp
        simp only [Option.some.injEq] at h; subst h
        rw [at3] at hb
        simp only [Option.some.injEq, Code.loop.injEq] at hb
        subst hb
        exact ⟨rfl, lo3⟩
      · cases h) ev2
    fun n xs hf hp hmu => ⟨ob2_ok n xs hf hp hmu, fun i k hi => by simp [Ent.oks, Ent.outL, le2, ent2, Sh.ksL, Sh.ks] at hi⟩
theorem lo1 : LoopOK Tryd.prog H0 (bodyAt p1) le1 :=
  loop_ok (T := T9) (l0 := ent2 :: l9) (call := fun _ _ _ => none) (N := 10) (L := L1) (by kernel_rfl) mu3 (fun n => sum9c (e := enL le1 mu3 n) (sum9 (e := ent2) (show (902 : Nat) ≠ 11 by decide) (show (902 : Nat) ≠ 21 by decide) (show (902 : Nat) ≠ 12 by decide) (show (902 : Nat) ≠ 23 by decide)) (show (901 : Nat) ≠ 11 by decide) (show (901 : Nat) ≠ 21 by decide) (show (901 : Nat) ≠ 12 by decide) (show (901 : Nat) ≠ 23 by decide))
    (fun n ρ w0 M0 Im0 hG f args m ob v m' h => by cases h)
    (fun n p le h body hb => by
      unfold L1 at h
      split at h
      · rename_i hp
        subst hp
        simp only [Option.some.injEq] at h; subst h
        rw [at2] at hb
        simp only [Option.some.injEq, Code.loop.injEq] at hb
        subst hb
        exact ⟨rfl, lo2⟩
      · cases h) ev1
    fun n xs hf hp hmu => ⟨ob1_ok n xs hf hp hmu, fun i k hi => by simp [Ent.oks, Ent.outL, le1, ent1, Sh.ksL, Sh.ks] at hi⟩
end Go.Proofs.YtbolcnlenmphhaaDoor
