/- Layer 26: the rule of what two rules have in common, in plain terms. No program is in sight here. -/
import Derived.Test.YtbolcnlenmphhaaDoorFw
set_option linter.unusedVariables false
namespace Go.Proofs.YtbolcnlenmphhaaDoor
open Go Go.RowKit Ev

def cmnF (x y : Nat → Int) : Nat → Int
  | 0 => bif x 0 == 2 then y 0 else x 0
  | 1 => max (x 1) (y 1)
  | 2 => (((x 2).toNat ||| (y 2).toNat : Nat) : Int)
  | 3 => (((x 3).toNat ||| (y 3).toNat : Nat) : Int)
  | 4 => bif decide (y 5 > x 5) then y 4 else x 4
  | 5 => max (x 5) (y 5)
  | 6 => bif decide (y 7 > x 7) then y 6 else x 6
  | 7 => max (x 7) (y 7)
  | 8 => max (x 8) (y 8)
  | 9 => min (x 9) (y 9)
  | 10 => max (x 10) (y 10)
  | 11 => min (x 11) (y 11)
  | _ => x 12
/-- The rule of what two rules have in common, its cells. -/
def comC (x y : Nat → Int) (j : Nat) : Int := bif rightS x && rightS y then (bif cmS x y then cmnF x y j else 0) else 0
/-- .. and the error. -/
def comE (x y : Nat → Int) : Int := bif rightS x && rightS y then (bif cmS x y then 0 else 6) else 260
def comO (x y : Nat → Int) : Nat → Int
  | 13 => comE x y
  | j => comC x y j

def flI (m w m' w' : Int) : Bool := (((bitB m 0 && bitB m' 0) && !(bitB w 0 == bitB w' 0)) || (((bitB m 1 && bitB m' 1) && !(bitB w 1 == bitB w' 1)) || (((bitB m 2 && bitB m' 2) && !(bitB w 2 == bitB w' 2)) || (((bitB m 3 && bitB m' 3) && !(bitB w 3 == bitB w' 3)) || (((bitB m 4 && bitB m' 4) && !(bitB w 4 == bitB w' 4)) || (((bitB m 5 && bitB m' 5) && !(bitB w 5 == bitB w' 5)) || (((bitB m 6 && bitB m' 6) && !(bitB w 6 == bitB w' 6)) || ((bitB m 7 && bitB m' 7) && !(bitB w 7 == bitB w' 7)))))))))
theorem flM_iff (m w m' w' : Int) (hm : 0 ≤ m ∧ m < 256) : flM m w m' w' = true ↔ ∀ i, i < 8 → bitB m i = true → bitB m' i = true → bitB w i = bitB w' i := by
  unfold flM bitB
  simp only [beq_iff_eq]
  constructor
  · intro h i hi h1 h2
    have := congrArg (fun n => n.testBit i) h
    simp only [Nat.testBit_and, Nat.testBit_xor, h1, h2, Bool.and_true, Nat.zero_testBit] at this
    simpa using this
  · intro h
    apply Nat.eq_of_testBit_eq
    intro i
    simp only [Nat.testBit_and, Nat.testBit_xor, Nat.zero_testBit]
    by_cases hi : i < 8
    · cases h1 : m.toNat.testBit i
      · simp
      · cases h2 : m'.toNat.testBit i
        · simp
        · simp [h i hi h1 h2]
    · have : m.toNat.testBit i = false := Nat.testBit_lt_two_pow (Nat.lt_of_lt_of_le (by omega : m.toNat < 2 ^ 8) (Nat.pow_le_pow_right (by omega) (by omega)))
      simp [this]
theorem flM_not (m w m' w' : Int) (hm : 0 ≤ m ∧ m < 256) : flM m w m' w' = !flI m w m' w' := by
  have hs := flM_iff m w m' w' hm
  rw [all8] at hs
  rw [Bool.eq_iff_iff, hs]
  unfold flI
  have t : ∀ a b c d : Bool, (a = true → b = true → c = d) ↔ ((a && b) && !(c == d)) = false := by decide
  simp only [t, Bool.not_eq_true', Bool.or_eq_false_iff]

def sumB (c0 c1 c2 c3 c4 c5 c6 c7 : Bool) : Int := IntKind.wrap .u8 (IntKind.wrap .u8 (IntKind.wrap .u8 (IntKind.wrap .u8 (IntKind.wrap .u8 (IntKind.wrap .u8 (IntKind.wrap .u8 ((bif c0 then 1 else 0) + (bif c1 then 2 else 0)) + (bif c2 then 4 else 0)) + (bif c3 then 8 else 0)) + (bif c4 then 16 else 0)) + (bif c5 then 32 else 0)) + (bif c6 then 64 else 0)) + (bif c7 then 128 else 0))
theorem sumB_eq : ∀ n : Nat, n < 256 → sumB (n.testBit 0) (n.testBit 1) (n.testBit 2) (n.testBit 3) (n.testBit 4) (n.testBit 5) (n.testBit 6) (n.testBit 7) = n := by decide +kernel
theorem sum_or (a b : Int) (ha : 0 ≤ a ∧ a < 256) (hb : 0 ≤ b ∧ b < 256) :
    sumB (bitB a 0 || bitB b 0) (bitB a 1 || bitB b 1) (bitB a 2 || bitB b 2) (bitB a 3 || bitB b 3) (bitB a 4 || bitB b 4) (bitB a 5 || bitB b 5) (bitB a 6 || bitB b 6) (bitB a 7 || bitB b 7) = ((a.toNat ||| b.toNat : Nat) : Int) := by
  have : a.toNat ||| b.toNat < 2 ^ 8 := Nat.or_lt_two_pow (by omega) (by omega)
  rw [← sumB_eq (a.toNat ||| b.toNat) this]
  simp only [Nat.testBit_or, bitB]

theorem pick_pfx {p n q m : Int} (hp : Pfx p n) (hq : Pfx q m) (h : (subP p n q m || subP q m p n) = true) :
    (bif subP p n q m then p else q) = (bif decide (m > n) then q else p) ∧ (bif subP p n q m then n else m) = max n m := by
  have h1 := psz_pos n
  cases hs : subP p n q m
  · rw [hs, Bool.false_or, subP_iff hq hp] at h
    have hs' : ¬ (q ≤ p ∧ hiP p n ≤ hiP q m) := fun hh => by rw [(subP_iff hp hq).2 hh] at hs; cases hs
    have hlt : n < m := by
      rcases Int.lt_or_le n m with h3 | h3
      · exact h3
      · exfalso
        rw [hp.hi, hq.hi] at h hs'
        rcases Int.lt_or_le m n with h4 | h4
        · have := psz_lt h4 hp.le
          omega
        · obtain rfl : n = m := by omega
          omega
    simp [hlt]
    omega
  · have h3 : m ≤ n := by
      unfold subP at hs
      simp only [Bool.and_eq_true, decide_eq_true_eq] at hs
      exact hs.1
    simp only [cond_true, decide_eq_false (show ¬ m > n by omega), cond_false, true_and]
    omega

theorem cond_chain (a b : Bool) (z v : Int) : (bif a then z else bif b then z else v) = bif a || b then z else v := by cases a <;> rfl
theorem cond_not (a : Bool) (z v : Int) : (bif !a then z else v) = bif a then v else z := by cases a <;> rfl
theorem b2i_i2b {a : Int} (h : K.norm .b a = a) : b2i (i2b a) = a := by
  have : a = 0 ∨ a = 1 := by
    simp only [K.norm] at h
    split at h <;> omega
  rcases this with rfl | rfl <;> rfl
end Go.Proofs.YtbolcnlenmphhaaDoor
