/- Layer 26: which packets a rule matches, in plain terms. No program is in sight here. -/
import Derived.Test.YtbolcnlenmphhaaDoorFn
set_option linter.unusedVariables false
namespace Go.Proofs.YtbolcnlenmphhaaDoor
open Go Go.RowKit Ev

/-- The last address of a prefix, as the program reckons it. -/
def hiP (a n : Int) : Int := bitsI .or .u32 a (bitsI .xor .u32 4294967295 (maskI n))
theorem hiP_in (a n : Int) (ha : 0 ≤ a ∧ a < 4294967296) (hn : 0 ≤ n ∧ n ≤ 255) : 0 ≤ hiP a n ∧ hiP a n < 4294967296 := by
  have h := mask_in n hn.1 hn.2
  unfold hiP
  rw [not32 _ h, or32 a _ ha (by omega)]
  have : a.toNat ||| (4294967295 - maskI n).toNat < 2 ^ 32 := Nat.or_lt_two_pow (by omega) (by omega)
  omega
theorem hiP_eq (a n : Int) (ha : 0 ≤ a ∧ a < 4294967296) (hn : 0 ≤ n) (hr : pR a n = true) : hiP a n = a + psz n - 1 := by
  unfold pR at hr
  simp only [Bool.and_eq_true, decide_eq_true_eq, beq_iff_eq] at hr
  unfold hiP
  rw [not32 _ (mask_in n hn (by omega)), last a n ha hn hr.1 hr.2]
theorem pR_div {a n : Int} (hr : pR a n = true) : n ≤ 32 ∧ ∃ q, a = q * psz n := by
  unfold pR at hr
  simp only [Bool.and_eq_true, decide_eq_true_eq, beq_iff_eq] at hr
  refine ⟨hr.1, a / psz n, ?_⟩
  have := Int.mul_ediv_add_emod a (psz n)
  rw [Int.mul_comm]; omega

theorem div_between {x p q s : Int} (hs : 0 < s) (hp : p = q * s) : x / s = p / s ↔ p ≤ x ∧ x ≤ p + s - 1 := by
  subst hp
  rw [Int.mul_ediv_cancel _ (by omega)]
  constructor
  · rintro rfl
    have h1 := Int.ediv_mul_le x (b := s) (by omega)
    have h2 := Int.lt_ediv_add_one_mul_self x hs
    rw [Int.add_mul] at h2
    omega
  · rintro ⟨h1, h2⟩
    apply Int.le_antisymm
    · have : x < (q + 1) * s := by rw [Int.add_mul]; omega
      have := (Int.ediv_lt_iff_lt_mul hs).2 this
      omega
    · exact (Int.le_ediv_iff_mul_le hs).2 h1

theorem inP_iff (p n a : Int) (hp : 0 ≤ p ∧ p < 4294967296) (hn : 0 ≤ n) (hr : pR p n = true) : inP p n a = (decide (p ≤ a) && decide (a ≤ hiP p n)) := by
  obtain ⟨_, q, hq⟩ := pR_div hr
  rw [hiP_eq p n hp hn hr]
  unfold inP
  rw [Bool.eq_iff_iff]
  simp only [beq_iff_eq, Bool.and_eq_true, decide_eq_true_eq]
  exact div_between (psz_pos n) hq

def flB (m w f : Int) : Bool := (f.toNat &&& m.toNat) == (w.toNat &&& m.toNat)
theorem sub8_and (w m : Int) (hw : 0 ≤ w ∧ w < 256) (hm : 0 ≤ m ∧ m < 256) (hs : sub8 w m = true) : w.toNat &&& m.toNat = w.toNat := by
  rw [sub8_iff w m hm] at hs
  apply Nat.eq_of_testBit_eq
  intro i
  rw [Nat.testBit_and]
  by_cases hi : i < 8
  · have := hs i hi
    unfold bitB at this
    cases h : w.toNat.testBit i
    · rfl
    · simp [this h]
  · have : w.toNat.testBit i = false := Nat.testBit_lt_two_pow (Nat.lt_of_lt_of_le (by omega : w.toNat < 2 ^ 8) (Nat.pow_le_pow_right (by omega) (by omega)))
    simp [this]
theorem flB_iff (m w f : Int) (hm : 0 ≤ m ∧ m < 256) : flB m w f = true ↔ ∀ i, i < 8 → bitB m i = true → bitB w i = bitB f i := by
  unfold flB bitB
  simp only [beq_iff_eq]
  constructor
  · intro h i hi hb
    have := congrArg (fun n => n.testBit i) h
    simp only [Nat.testBit_and, hb, Bool.and_true] at this
    exact this.symm
  · intro h
    apply Nat.eq_of_testBit_eq
    intro i
    simp only [Nat.testBit_and]
    by_cases hi : i < 8
    · cases hb : m.toNat.testBit i
      · simp
      · simp [h i hi hb]
    · have : m.toNat.testBit i = false := Nat.testBit_lt_two_pow (Nat.lt_of_lt_of_le (by omega : m.toNat < 2 ^ 8) (Nat.pow_le_pow_right (by omega) (by omega)))
      simp [this]
theorem flB_not (m w f : Int) (hm : 0 ≤ m ∧ m < 256) : flB m w f = !((bitB m 0 && !(bitB w 0 == bitB f 0)) || ((bitB m 1 && !(bitB w 1 == bitB f 1)) || ((bitB m 2 && !(bitB w 2 == bitB f 2)) || ((bitB m 3 && !(bitB w 3 == bitB f 3)) || ((bitB m 4 && !(bitB w 4 == bitB f 4)) || ((bitB m 5 && !(bitB w 5 == bitB f 5)) || ((bitB m 6 && !(bitB w 6 == bitB f 6)) || (bitB m 7 && !(bitB w 7 == bitB f 7))))))))) := by
  have hs := flB_iff m w f hm
  rw [all8] at hs
  rw [Bool.eq_iff_iff, hs]
  have t : ∀ a b c : Bool, (a = true → b = c) ↔ (a && !(b == c)) = false := by decide
  simp only [t, Bool.not_eq_true', Bool.or_eq_false_iff]

/-- Whether a number meets a condition. -/
def hasB (n lo hi b w : Int) : Bool := decide (lo ≤ n) && decide (n ≤ hi) && (bitsI .and .u32 n b == w)

/-- The conditions of a rule. -/
def fieldsF (x : Nat → Int) : Nat → Int
  | 0 => bif x 0 == 2 then 0 else x 0
  | 1 => bif x 0 == 2 then 1 else x 0
  | 4 => bif x 1 == 0 then 0 else x 1
  | 5 => bif x 1 == 0 then 255 else x 1
  | 8 => x 4
  | 9 => hiP (x 4) (x 5)
  | 12 => x 6
  | 13 => hiP (x 6) (x 7)
  | 16 => x 8
  | 17 => x 9
  | 20 => x 10
  | 21 => x 11
  | 25 => 255
  | 26 => x 2
  | 27 => x 3
  | _ => 0

def goodP (s p : Int) : Bool := decide (s ≤ 1) && (p == 1 || p == 6 || p == 17)

/-- Whether a rule matches a packet: side, protocol, addresses, ports, flags. -/
def meetsS (x : Nat → Int) (s p a b sp dp fl : Int) : Bool :=
  (x 0 == 2 || x 0 == s) && (x 1 == 0 || x 1 == p) && inP (x 4) (x 5) a && inP (x 6) (x 7) b && (decide (x 8 ≤ sp) && decide (sp ≤ x 9)) && (decide (x 10 ≤ dp) && decide (dp ≤ x 11)) && flB (x 2) (x 3) fl

/-- The bounds of a rule's numbers. -/
structure RuleIn (x : Nat → Int) : Prop where
  b0 : 0 ≤ x 0 ∧ x 0 < 256
  b1 : 0 ≤ x 1 ∧ x 1 < 256
  b2 : 0 ≤ x 2 ∧ x 2 < 256
  b3 : 0 ≤ x 3 ∧ x 3 < 256
  b4 : 0 ≤ x 4 ∧ x 4 < 4294967296
  b5 : 0 ≤ x 5 ∧ x 5 < 256
  b6 : 0 ≤ x 6 ∧ x 6 < 4294967296
  b7 : 0 ≤ x 7 ∧ x 7 < 256
  b8 : 0 ≤ x 8 ∧ x 8 < 65536
  b9 : 0 ≤ x 9 ∧ x 9 < 65536
  b10 : 0 ≤ x 10 ∧ x 10 < 65536
  b11 : 0 ≤ x 11 ∧ x 11 < 65536

theorem and0 (n : Int) : bitsI .and .u32 n 0 = 0 := by
  show IntKind.wrap .u32 ((BitVec.ofInt 32 n &&& BitVec.ofInt 32 0).toNat : Int) = 0
  have : (BitVec.ofInt 32 0 : BitVec 32) = 0#32 := by decide
  rw [this, BitVec.and_zero]
  rfl

structure Right (x : Nat → Int) : Prop where
  side : x 0 ≤ 2
  proto : x 1 = 0 ∨ x 1 = 1 ∨ x 1 = 6 ∨ x 1 = 17
  src : pR (x 4) (x 5) = true
  dst : pR (x 6) (x 7) = true
  sp : rR (x 1 == 6 || x 1 == 17) (x 8) (x 9) = true
  dp : rR (x 1 == 6 || x 1 == 17) (x 10) (x 11) = true
  mask : x 2 ≤ 63
  want : sub8 (x 3) (x 2) = true
  flags : x 2 = 0 ∨ x 1 = 6
theorem rightS_iff (x : Nat → Int) : rightS x = true ↔ Right x := by
  unfold rightS
  simp only [Bool.and_eq_true, Bool.or_eq_true, decide_eq_true_eq, beq_iff_eq]
  constructor
  · rintro ⟨⟨⟨⟨⟨⟨⟨h0, h1⟩, h2⟩, h3⟩, h4⟩, h5⟩, h6, h7⟩, h8⟩
    exact ⟨h0, by omega, h2, h3, h4, h5, h6, h7, h8⟩
  · rintro ⟨h0, h1, h2, h3, h4, h5, h6, h7, h8⟩
    exact ⟨⟨⟨⟨⟨⟨⟨h0, by omega⟩, h2⟩, h3⟩, h4⟩, h5⟩, h6, h7⟩, h8⟩

/-- A right rule's conditions are met just by the packets that it matches. -/
theorem has_all {x : Nat → Int} (hi : RuleIn x) (hr : Right x) {s p a b sp dp fl : Int} (hg : goodP s p = true) (hs : 0 ≤ s) (hp : p < 256) (hfl : 0 ≤ fl ∧ fl < 256) :
    (hasB s (fieldsF x 0) (fieldsF x 1) (fieldsF x 2) (fieldsF x 3) && hasB p (fieldsF x 4) (fieldsF x 5) (fieldsF x 6) (fieldsF x 7) && hasB a (fieldsF x 8) (fieldsF x 9) (fieldsF x 10) (fieldsF x 11)
      && hasB b (fieldsF x 12) (fieldsF x 13) (fieldsF x 14) (fieldsF x 15) && hasB sp (fieldsF x 16) (fieldsF x 17) (fieldsF x 18) (fieldsF x 19) && hasB dp (fieldsF x 20) (fieldsF x 21) (fieldsF x 22) (fieldsF x 23)
      && hasB fl (fieldsF x 24) (fieldsF x 25) (fieldsF x 26) (fieldsF x 27)) = meetsS x s p a b sp dp fl := by
  unfold goodP at hg
  simp only [Bool.and_eq_true, Bool.or_eq_true, decide_eq_true_eq, beq_iff_eq] at hg
  have e1 : hasB s (fieldsF x 0) (fieldsF x 1) (fieldsF x 2) (fieldsF x 3) = (x 0 == 2 || x 0 == s) := by
    simp only [hasB, fieldsF, and0, beq_self_eq_true, Bool.and_true]
    cases h : (x 0 == 2)
    · simp only [cond_false, Bool.false_or]; rw [Bool.eq_iff_iff]; simp; omega
    · simp only [cond_true, Bool.true_or]; simp; omega
  have e2 : hasB p (fieldsF x 4) (fieldsF x 5) (fieldsF x 6) (fieldsF x 7) = (x 1 == 0 || x 1 == p) := by
    simp only [hasB, fieldsF, and0, beq_self_eq_true, Bool.and_true]
    cases h : (x 1 == 0)
    · simp only [cond_false, Bool.false_or]; rw [Bool.eq_iff_iff]; simp; omega
    · simp only [cond_true, Bool.true_or]; simp; omega
  have e3 : hasB a (fieldsF x 8) (fieldsF x 9) (fieldsF x 10) (fieldsF x 11) = inP (x 4) (x 5) a := by
    simp only [hasB, fieldsF, and0, beq_self_eq_true, Bool.and_true]
    rw [inP_iff _ _ _ hi.b4 hi.b5.1 hr.src]
  have e4 : hasB b (fieldsF x 12) (fieldsF x 13) (fieldsF x 14) (fieldsF x 15) = inP (x 6) (x 7) b := by
    simp only [hasB, fieldsF, and0, beq_self_eq_true, Bool.and_true]
    rw [inP_iff _ _ _ hi.b6 hi.b7.1 hr.dst]
  have e5 : hasB sp (fieldsF x 16) (fieldsF x 17) (fieldsF x 18) (fieldsF x 19) = (decide (x 8 ≤ sp) && decide (sp ≤ x 9)) := by
    simp only [hasB, fieldsF, and0, beq_self_eq_true, Bool.and_true]
  have e6 : hasB dp (fieldsF x 20) (fieldsF x 21) (fieldsF x 22) (fieldsF x 23) = (decide (x 10 ≤ dp) && decide (dp ≤ x 11)) := by
    simp only [hasB, fieldsF, and0, beq_self_eq_true, Bool.and_true]
  have e7 : hasB fl (fieldsF x 24) (fieldsF x 25) (fieldsF x 26) (fieldsF x 27) = flB (x 2) (x 3) fl := by
    have h0 := hi.b2
    have h3 := hi.b3
    simp only [hasB, fieldsF]
    rw [and32 fl (x 2) (by omega) (by omega)]
    unfold flB
    rw [sub8_and _ _ hi.b3 hi.b2 hr.want, Bool.eq_iff_iff]
    simp only [Bool.and_eq_true, decide_eq_true_eq, beq_iff_eq]
    omega
  rw [e1, e2, e3, e4, e5, e6, e7]
  rfl

theorem fieldsF_in {x : Nat → Int} (hi : RuleIn x) (j : Nat) : 0 ≤ fieldsF x j ∧ fieldsF x j < 4294967296 := by
  have h0 := hi.b0
  have h1 := hi.b1
  have h2 := hi.b2
  have h3 := hi.b3
  have h4 := hi.b4
  have h5 := hi.b5
  have h6 := hi.b6
  have h7 := hi.b7
  have h8 := hi.b8
  have h9 := hi.b9
  have h10 := hi.b10
  have h11 := hi.b11
  unfold fieldsF
  split
  · cases x 0 == 2 <;> simp only [cond_true, cond_false] <;> omega
  · cases x 0 == 2 <;> simp only [cond_true, cond_false] <;> omega
  · cases x 1 == 0 <;> simp only [cond_true, cond_false] <;> omega
  · cases x 1 == 0 <;> simp only [cond_true, cond_false] <;> omega
  · exact h4
  · exact hiP_in _ _ h4 ⟨h5.1, by omega⟩
  · exact h6
  · exact hiP_in _ _ h6 ⟨h7.1, by omega⟩
  all_goals omega
theorem nrm32 {a : Int} (h : 0 ≤ a ∧ a < 4294967296) : K.norm (.i .u32) a = a := by
  show IntKind.wrap .u32 a = a
  rw [wrap32]; omega
theorem fieldsF_norm {x : Nat → Int} (hi : RuleIn x) (j : Nat) : K.norm (.i .u32) (fieldsF x j) = fieldsF x j := nrm32 (fieldsF_in hi j)

/-- What a packet has for the conditions. -/
def valuesF (x : Nat → Int) : Nat → Int
  | 0 => x 0
  | 1 => x 1
  | 2 => x 2
  | 3 => x 3
  | 4 => x 4
  | 5 => x 5
  | _ => x 7
/-- All seven conditions. -/
def all7 (x : Nat → Int) : Bool := hasB (x 0) (x 7) (x 8) (x 9) (x 10) && hasB (x 1) (x 11) (x 12) (x 13) (x 14) && hasB (x 2) (x 15) (x 16) (x 17) (x 18) && hasB (x 3) (x 19) (x 20) (x 21) (x 22) && hasB (x 4) (x 23) (x 24) (x 25) (x 26) && hasB (x 5) (x 27) (x 28) (x 29) (x 30) && hasB (x 6) (x 31) (x 32) (x 33) (x 34)
/-- Whether a rule matches a packet, and the error. -/
def matF (x : Nat → Int) : Bool := rightS x && (goodP (x 13) (x 14) && meetsS x (x 13) (x 14) (x 15) (x 16) (x 17) (x 18) (x 20))
def matE (x : Nat → Int) : Int := bif !rightS x then 260 else bif !goodP (x 13) (x 14) then 261 else 0
end Go.Proofs.YtbolcnlenmphhaaDoor
