/- Layer 26: what the functions compute, in plain terms: prefixes, ranges, flags. No program is in sight here. -/
import Derived.Test.YtbolcnlenmphhaaDoorEvA
set_option linter.unusedVariables false
namespace Go.Proofs.YtbolcnlenmphhaaDoor
open Go Go.RowKit Ev

theorem wrap8 (x : Int) : IntKind.wrap .u8 x = x % 256 := by simp [IntKind.wrap, IntKind.signed, IntKind.bits]
theorem wrap16 (x : Int) : IntKind.wrap .u16 x = x % 65536 := by simp [IntKind.wrap, IntKind.signed, IntKind.bits]
theorem wrap32 (x : Int) : IntKind.wrap .u32 x = x % 4294967296 := by simp [IntKind.wrap, IntKind.signed, IntKind.bits]
theorem wrap64u (x : Int) : IntKind.wrap .u64 x = x % 18446744073709551616 := by simp [IntKind.wrap, IntKind.signed, IntKind.bits]

theorem bv_in (b : Nat) (x : Int) (h : 0 ≤ x) (h' : x.toNat < 2 ^ b) : (BitVec.ofInt b x).toNat = x.toNat := by
  obtain ⟨n, rfl⟩ := Int.eq_ofNat_of_zero_le h
  simp only [Int.toNat_natCast] at h' ⊢
  simp
  exact Nat.mod_eq_of_lt h'

theorem nat_wrap8 (n : Nat) (h : n < 256) : IntKind.wrap .u8 (n : Int) = n := by rw [wrap8]; omega
theorem nat_wrap32 (n : Nat) (h : n < 4294967296) : IntKind.wrap .u32 (n : Int) = n := by rw [wrap32]; omega

theorem and8 (x y : Int) (hx : 0 ≤ x ∧ x < 256) (hy : 0 ≤ y ∧ y < 256) : bitsI .and .u8 x y = ((x.toNat &&& y.toNat : Nat) : Int) := by
  have := @Nat.and_le_left x.toNat y.toNat
  show IntKind.wrap .u8 ((BitVec.ofInt 8 x &&& BitVec.ofInt 8 y).toNat : Int) = _
  rw [BitVec.toNat_and, bv_in 8 x hx.1 (by omega), bv_in 8 y hy.1 (by omega), nat_wrap8 _ (by omega)]
theorem or8 (x y : Int) (hx : 0 ≤ x ∧ x < 256) (hy : 0 ≤ y ∧ y < 256) : bitsI .or .u8 x y = ((x.toNat ||| y.toNat : Nat) : Int) := by
  have : x.toNat ||| y.toNat < 2 ^ 8 := Nat.or_lt_two_pow (by omega) (by omega)
  show IntKind.wrap .u8 ((BitVec.ofInt 8 x ||| BitVec.ofInt 8 y).toNat : Int) = _
  rw [BitVec.toNat_or, bv_in 8 x hx.1 (by omega), bv_in 8 y hy.1 (by omega), nat_wrap8 _ (by omega)]
theorem andNot8 (x y : Int) (hx : 0 ≤ x ∧ x < 256) (hy : 0 ≤ y ∧ y < 256) : bitsI .andNot .u8 x y = ((x.toNat &&& (255 - y.toNat) : Nat) : Int) := by
  have := @Nat.and_le_left x.toNat (255 - y.toNat)
  show IntKind.wrap .u8 ((BitVec.ofInt 8 x &&& ~~~ BitVec.ofInt 8 y).toNat : Int) = _
  rw [BitVec.toNat_and, BitVec.toNat_not, bv_in 8 x hx.1 (by omega), bv_in 8 y hy.1 (by omega)]
  exact nat_wrap8 _ (by show x.toNat &&& (255 - y.toNat) < 256; omega)
theorem and32 (x y : Int) (hx : 0 ≤ x ∧ x < 4294967296) (hy : 0 ≤ y ∧ y < 4294967296) : bitsI .and .u32 x y = ((x.toNat &&& y.toNat : Nat) : Int) := by
  have := @Nat.and_le_left x.toNat y.toNat
  show IntKind.wrap .u32 ((BitVec.ofInt 32 x &&& BitVec.ofInt 32 y).toNat : Int) = _
  rw [BitVec.toNat_and, bv_in 32 x hx.1 (by omega), bv_in 32 y hy.1 (by omega), nat_wrap32 _ (by omega)]
theorem or32 (x y : Int) (hx : 0 ≤ x ∧ x < 4294967296) (hy : 0 ≤ y ∧ y < 4294967296) : bitsI .or .u32 x y = ((x.toNat ||| y.toNat : Nat) : Int) := by
  have : x.toNat ||| y.toNat < 2 ^ 32 := Nat.or_lt_two_pow (by omega) (by omega)
  show IntKind.wrap .u32 ((BitVec.ofInt 32 x ||| BitVec.ofInt 32 y).toNat : Int) = _
  rw [BitVec.toNat_or, bv_in 32 x hx.1 (by omega), bv_in 32 y hy.1 (by omega), nat_wrap32 _ (by omega)]
theorem andNot32 (x y : Int) (hx : 0 ≤ x ∧ x < 4294967296) (hy : 0 ≤ y ∧ y < 4294967296) : bitsI .andNot .u32 x y = ((x.toNat &&& (4294967295 - y.toNat) : Nat) : Int) := by
  have := @Nat.and_le_left x.toNat (4294967295 - y.toNat)
  show IntKind.wrap .u32 ((BitVec.ofInt 32 x &&& ~~~ BitVec.ofInt 32 y).toNat : Int) = _
  rw [BitVec.toNat_and, BitVec.toNat_not, bv_in 32 x hx.1 (by omega), bv_in 32 y hy.1 (by omega)]
  exact nat_wrap32 _ (by show x.toNat &&& (4294967295 - y.toNat) < 4294967296; omega)
theorem not32 (y : Int) (hy : 0 ≤ y ∧ y < 4294967296) : bitsI .xor .u32 4294967295 y = 4294967295 - y := by
  show IntKind.wrap .u32 ((BitVec.ofInt 32 4294967295 ^^^ BitVec.ofInt 32 y).toNat : Int) = _
  have : (BitVec.ofInt 32 4294967295 : BitVec 32) = BitVec.allOnes 32 := by decide
  rw [this, BitVec.allOnes_xor, BitVec.toNat_not, bv_in 32 y hy.1 (by omega), wrap32]
  omega

def psz (n : Int) : Int := 2 ^ (32 - n).toNat
theorem psz_pos (n : Int) : 0 < psz n := Int.pow_pos (by omega)
theorem psz_nat (n : Int) : psz n = ((2 ^ (32 - n).toNat : Nat) : Int) := by simp [psz]
theorem psz_le (n : Int) (h : 0 ≤ n) : psz n ≤ 4294967296 := by
  have : (2:Nat) ^ (32 - n).toNat ≤ 2 ^ 32 := Nat.pow_le_pow_right (by omega) (by omega)
  rw [psz_nat]
  omega

/-- A mask, as the program reckons it. -/
def maskI (n : Int) : Int := shI .shl .u32 4294967295 (IntKind.wrap .u8 (32 - n))
theorem mask_eq (n : Int) (h : 0 ≤ n) (h' : n ≤ 32) : maskI n = 4294967296 - psz n := by
  have h1 := psz_pos n
  have h2 := psz_le n h
  unfold maskI
  rw [wrap8, show (32 - n) % 256 = 32 - n by omega]
  show IntKind.wrap .u32 (4294967295 * 2 ^ (min (32 - n).toNat 32)) = _
  rw [show min (32 - n).toNat 32 = (32 - n).toNat by omega, wrap32]
  show 4294967295 * psz n % _ = _
  omega
theorem mask_big (n : Int) (h : 32 < n) (h' : n ≤ 255) : maskI n = 0 := by
  unfold maskI
  rw [wrap8, show (32 - n) % 256 = 288 - n by omega]
  show IntKind.wrap .u32 (4294967295 * 2 ^ (min (288 - n).toNat 32)) = _
  rw [show min (288 - n).toNat 32 = 32 by omega, wrap32]
  omega
theorem mask_in (n : Int) (h : 0 ≤ n) (h' : n ≤ 255) : 0 ≤ maskI n ∧ maskI n < 4294967296 := by
  rcases Int.lt_or_le 32 n with h2 | h2
  rotate_left
  · have h1 := psz_pos n
    have h3 := psz_le n h
    rw [mask_eq n h h2]; omega
  · rw [mask_big n h2 h']; omega

/-- The bits behind a prefix. -/
theorem host (a n : Int) (ha : 0 ≤ a ∧ a < 4294967296) (h : 0 ≤ n) (h' : n ≤ 32) : bitsI .andNot .u32 a (maskI n) = a % psz n := by
  have h1 := psz_pos n
  have h2 := psz_le n h
  rw [andNot32 a _ ha (mask_in n h (by omega)), mask_eq n h h']
  have : 4294967295 - (4294967296 - psz n).toNat = 2 ^ (32 - n).toNat - 1 := by
    rw [psz_nat] at h1 h2 ⊢
    omega
  rw [this, Nat.and_two_pow_sub_one_eq_mod, psz_nat, Int.natCast_emod, Int.toNat_of_nonneg ha.1]

theorem last (a n : Int) (ha : 0 ≤ a ∧ a < 4294967296) (h : 0 ≤ n) (h' : n ≤ 32) (hr : a % psz n = 0) : bitsI .or .u32 a (4294967295 - maskI n) = a + psz n - 1 := by
  have h1 := psz_pos n
  have h2 := psz_le n h
  rw [mask_eq n h h', or32 a _ ha (by omega)]
  have e1 : (4294967295 - (4294967296 - psz n)).toNat = 2 ^ (32 - n).toNat - 1 := by rw [psz_nat] at h1 h2 ⊢; omega
  rw [e1]
  obtain ⟨q, hq⟩ : ∃ q : Nat, a.toNat = 2 ^ (32 - n).toNat * q := by
    rw [psz_nat] at hr
    refine ⟨a.toNat / 2 ^ (32 - n).toNat, ?_⟩
    have : a.toNat % 2 ^ (32 - n).toNat = 0 := by
      have e : ((a.toNat % 2 ^ (32 - n).toNat : Nat) : Int) = 0 := by rw [Int.natCast_emod, Int.toNat_of_nonneg ha.1]; exact hr
      omega
    have := Nat.div_add_mod a.toNat (2 ^ (32 - n).toNat)
    omega
  have hp : 0 < 2 ^ (32 - n).toNat := Nat.two_pow_pos _
  rw [hq, ← Nat.two_pow_add_eq_or_of_lt (by omega), psz_nat]
  omega

def pR (a n : Int) : Bool := decide (n ≤ 32) && (a % psz n == 0)
def rR (p : Bool) (f t : Int) : Bool := bif p then decide (f ≤ t) else (f == 0 && t == 65535)
/-- All bits of the first are bits of the second. -/
def sub8 (w m : Int) : Bool := w.toNat &&& (255 - m.toNat) == 0

/-- Which rules are right. -/
def rightS (x : Nat → Int) : Bool :=
  decide (x 0 ≤ 2) && (x 1 == 0 || x 1 == 1 || x 1 == 6 || x 1 == 17) && pR (x 4) (x 5) && pR (x 6) (x 7) && rR (x 1 == 6 || x 1 == 17) (x 8) (x 9) && rR (x 1 == 6 || x 1 == 17) (x 10) (x 11)
    && (decide (x 2 ≤ 63) && sub8 (x 3) (x 2)) && (x 2 == 0 || x 1 == 6)

/-- Whether an address has the first bits of a prefix. -/
def inP (p n a : Int) : Bool := a / psz n == p / psz n
theorem le63 : ∀ n : Nat, n < 256 → decide (n ≤ 63) = (n &&& (255 - (63:Int).toNat) == 0) := by decide +kernel
def bitB (n : Int) (i : Nat) : Bool := n.toNat.testBit i

theorem sub8_iff (w m : Int) (hm : 0 ≤ m ∧ m < 256) : sub8 w m = true ↔ ∀ i, i < 8 → bitB w i = true → bitB m i = true := by
  unfold sub8 bitB
  have e : 255 - m.toNat = 2 ^ 8 - (m.toNat + 1) := by omega
  have hm' : m.toNat < 2 ^ 8 := by omega
  simp only [beq_iff_eq]
  constructor
  · intro h i hi hw
    have := congrArg (fun n => n.testBit i) h
    simp only [Nat.testBit_and, e, Nat.testBit_two_pow_sub_succ hm', hw, hi, decide_true, Bool.true_and, Nat.zero_testBit] at this
    simpa using this
  · intro h
    apply Nat.eq_of_testBit_eq
    intro i
    simp only [Nat.testBit_and, e, Nat.testBit_two_pow_sub_succ hm', Nat.zero_testBit]
    by_cases hi : i < 8
    · cases hw : w.toNat.testBit i
      · rfl
      · simp [hi, h i hi hw]
    · simp [hi]
theorem all8 (p : Nat → Prop) : (∀ i, i < 8 → p i) ↔ p 0 ∧ p 1 ∧ p 2 ∧ p 3 ∧ p 4 ∧ p 5 ∧ p 6 ∧ p 7 := by
  constructor
  · intro h
    exact ⟨h 0 (by omega), h 1 (by omega), h 2 (by omega), h 3 (by omega), h 4 (by omega), h 5 (by omega), h 6 (by omega), h 7 (by omega)⟩
  · rintro ⟨h0, h1, h2, h3, h4, h5, h6, h7⟩ i hi
    match i, hi with
    | 0, _ => exact h0
    | 1, _ => exact h1
    | 2, _ => exact h2
    | 3, _ => exact h3
    | 4, _ => exact h4
    | 5, _ => exact h5
    | 6, _ => exact h6
    | 7, _ => exact h7
theorem orn (c d : Bool) : (c || (!c && d)) = (c || d) := by cases c <;> rfl
theorem sub8_not (w m : Int) (hm : 0 ≤ m ∧ m < 256) : sub8 w m = !((bitB w 0 && !bitB m 0) || ((bitB w 1 && !bitB m 1) || ((bitB w 2 && !bitB m 2) || ((bitB w 3 && !bitB m 3) || ((bitB w 4 && !bitB m 4) || ((bitB w 5 && !bitB m 5) || ((bitB w 6 && !bitB m 6) || (bitB w 7 && !bitB m 7)))))))) := by
  have hs := sub8_iff w m hm
  rw [all8] at hs
  rw [Bool.eq_iff_iff, hs]
  have t : ∀ a b : Bool, (a = true → b = true) ↔ (a && !b) = false := by decide
  simp only [t, Bool.not_eq_true', Bool.or_eq_false_iff]
theorem bit_eq (n : Int) (hn : 0 ≤ n) (i : Nat) : (n / ((2 ^ i : Nat) : Int) % 2 == 1) = bitB n i := by
  obtain ⟨m, rfl⟩ := Int.eq_ofNat_of_zero_le hn
  unfold bitB
  rw [Int.toNat_natCast, Nat.testBit_eq_decide_div_mod_eq, Bool.eq_iff_iff]
  simp only [beq_iff_eq, decide_eq_true_eq]
  rw [← Int.natCast_ediv]
  omega
end Go.Proofs.YtbolcnlenmphhaaDoor
