/- Layer 26: rules within one another, and what two rules have in common, in plain terms. No program is in sight here. -/
import Derived.Test.YtbolcnlenmphhaaDoorFm
set_option linter.unusedVariables false
namespace Go.Proofs.YtbolcnlenmphhaaDoor
open Go Go.RowKit Ev

/-- Whether all numbers of one condition meet another one. -/
def insB (lo hi b w lo' hi' b' w' : Int) : Bool := decide (lo' ≤ lo) && decide (hi ≤ hi') && (bitsI .andNot .u32 b' b == 0) && (bitsI .and .u32 w b' == w')
/-- Whether some number meets two conditions. -/
def meetB (lo hi b w lo' hi' b' w' : Int) : Bool := decide ((bif decide (lo' > lo) then lo' else lo) ≤ (bif decide (hi' < hi) then hi' else hi)) && (bitsI .and .u32 (bitsI .and .u32 (bitsI .xor .u32 w w') b) b' == 0)
/-- Whether a prefix (its address, its length) is in another one. -/
def subP (p n q m : Int) : Bool := decide (m ≤ n) && inP q m p

def insS (x y : Nat → Int) : Bool :=
  (y 0 == 2 || x 0 == y 0) && (y 1 == 0 || x 1 == y 1) && subP (x 4) (x 5) (y 4) (y 5) && subP (x 6) (x 7) (y 6) (y 7)
    && (decide (y 8 ≤ x 8) && decide (x 9 ≤ y 9)) && (decide (y 10 ≤ x 10) && decide (x 11 ≤ y 11)) && (sub8 (y 2) (x 2) && flB (y 2) (y 3) (x 3))

def flM (m w m' w' : Int) : Bool := ((w.toNat ^^^ w'.toNat) &&& m.toNat) &&& m'.toNat == 0
def cmS (x y : Nat → Int) : Bool :=
  (x 0 == 2 || y 0 == 2 || x 0 == y 0) && (x 1 == 0 || y 1 == 0 || x 1 == y 1) && (subP (x 4) (x 5) (y 4) (y 5) || subP (y 4) (y 5) (x 4) (x 5)) && (subP (x 6) (x 7) (y 6) (y 7) || subP (y 6) (y 7) (x 6) (x 7))
    && decide (max (x 8) (y 8) ≤ min (x 9) (y 9)) && decide (max (x 10) (y 10) ≤ min (x 11) (y 11)) && flM (x 2) (x 3) (y 2) (y 3)

theorem bif_beq (a b c d : Int) : (bif a == b then c else d) = if a = b then c else d := by
  by_cases h : a = b
  · simp [h]
  · rw [beq_eq_false_iff_ne.2 h, if_neg h]; rfl

theorem psz_mono {n m : Int} (hn : 0 ≤ n) (h : m ≤ n) (h' : n ≤ 32) : ∃ k, 0 < k ∧ psz m = k * psz n := by
  refine ⟨2 ^ (n - m).toNat, Int.pow_pos (by omega), ?_⟩
  unfold psz
  rw [← Int.pow_add]
  congr 1
  omega
theorem psz_lt {n m : Int} (h : n < m) (h' : m ≤ 32) : 2 * psz m ≤ psz n := by
  obtain ⟨d, hd⟩ : ∃ d : Nat, (32 - n).toNat = (32 - m).toNat + (d + 1) := ⟨(m - n).toNat - 1, by omega⟩
  unfold psz
  rw [hd, Int.pow_add, Int.pow_succ]
  have h1 : (0 : Int) < 2 ^ (32 - m).toNat := Int.pow_pos (by omega)
  have h2 : (0 : Int) < 2 ^ d := Int.pow_pos (by omega)
  have h3 : (2 : Int) ^ (32 - m).toNat * 1 ≤ 2 ^ (32 - m).toNat * 2 ^ d := Int.mul_le_mul_of_nonneg_left (by omega) (by omega)
  rw [← Int.mul_assoc]
  omega

/-- A right prefix: an interval of a power of two, aligned. -/
structure Pfx (p n : Int) : Prop where
  lo : 0 ≤ p ∧ p < 4294967296
  n0 : 0 ≤ n ∧ n < 256
  ok : pR p n = true
theorem Pfx.le {p n : Int} (h : Pfx p n) : n ≤ 32 := (pR_div h.ok).1
theorem Pfx.hi {p n : Int} (h : Pfx p n) : hiP p n = p + psz n - 1 := hiP_eq p n h.lo h.n0.1 h.ok

/-- Multiples of s: below means below by s. -/
theorem step {s a b : Int} (hs : 0 < s) (h : a * s < b * s) : a * s + s ≤ b * s := by
  have : a < b := Int.lt_of_mul_lt_mul_right h (by omega)
  have := Int.mul_le_mul_of_nonneg_right (show a + 1 ≤ b by omega) (show 0 ≤ s by omega)
  rw [Int.add_mul] at this
  omega

theorem Pfx.dis {p n q m : Int} (hp : Pfx p n) (hq : Pfx q m) (h : m ≤ n) : (q ≤ p ∧ p + psz n ≤ q + psz m) ∨ p + psz n ≤ q ∨ q + psz m ≤ p := by
  obtain ⟨_, a, ha⟩ := pR_div hp.ok
  obtain ⟨_, b, hb⟩ := pR_div hq.ok
  obtain ⟨k, hk, hpk⟩ := psz_mono hp.n0.1 h hp.le
  have hs := psz_pos n
  rw [hpk] at hb ⊢
  have e1 : q = (b * k) * psz n := by rw [hb, Int.mul_assoc]
  have e2 : q + k * psz n = (b * k + k) * psz n := by rw [e1, Int.add_mul]
  rw [e2]
  rcases Int.lt_or_le p q with h1 | h1
  · rw [ha, e1] at h1
    have := step hs h1
    rw [← ha, ← e1] at this
    omega
  · rcases Int.lt_or_le p ((b * k + k) * psz n) with h2 | h2
    · rw [ha] at h2
      have := step hs h2
      rw [← ha] at this
      omega
    · omega

theorem subP_iff {p n q m : Int} (hp : Pfx p n) (hq : Pfx q m) : subP p n q m = true ↔ q ≤ p ∧ hiP p n ≤ hiP q m := by
  unfold subP
  rw [inP_iff q m p hq.lo hq.n0.1 hq.ok, hp.hi, hq.hi]
  simp only [Bool.and_eq_true, decide_eq_true_eq]
  have h1 := psz_pos n
  have h2 := psz_pos m
  constructor
  · rintro ⟨a, b, c⟩
    rcases hp.dis hq a with h | h | h <;> omega
  · rintro ⟨a, b⟩
    refine ⟨?_, a, by omega⟩
    rcases Int.lt_or_le n m with h | h
    · have := psz_lt h hq.le
      omega
    · exact h

theorem RuleIn.src {x : Nat → Int} (hi : RuleIn x) (hr : Right x) : Pfx (x 4) (x 5) := ⟨hi.b4, hi.b5, hr.src⟩
theorem RuleIn.dst {x : Nat → Int} (hi : RuleIn x) (hr : Right x) : Pfx (x 6) (x 7) := ⟨hi.b6, hi.b7, hr.dst⟩

theorem andNot0 (n : Int) (h : 0 ≤ n ∧ n < 4294967296) : bitsI .andNot .u32 0 n = 0 := by
  rw [andNot32 0 n (by omega) h]
  simp
theorem sub8_32 (m m' : Int) (h : 0 ≤ m ∧ m < 256) (h' : 0 ≤ m' ∧ m' < 256) : (bitsI .andNot .u32 m' m == 0) = sub8 m' m := by
  rw [andNot32 m' m (by omega) (by omega)]
  unfold sub8
  rw [Bool.eq_iff_iff]
  simp only [beq_iff_eq]
  have e : m'.toNat &&& (4294967295 - m.toNat) = m'.toNat &&& (255 - m.toNat) := by
    apply Nat.eq_of_testBit_eq
    intro i
    have e1 : 4294967295 - m.toNat = 2 ^ 32 - (m.toNat + 1) := by omega
    have e2 : 255 - m.toNat = 2 ^ 8 - (m.toNat + 1) := by omega
    rw [Nat.testBit_and, Nat.testBit_and, e1, e2, Nat.testBit_two_pow_sub_succ (by omega), Nat.testBit_two_pow_sub_succ (by omega)]
    by_cases hi : i < 8
    · simp [hi, show i < 32 by omega]
    · have : m'.toNat.testBit i = false := Nat.testBit_lt_two_pow (Nat.lt_of_lt_of_le (by omega : m'.toNat < 2 ^ 8) (Nat.pow_le_pow_right (by omega) (by omega)))
      simp [this]
  rw [e]
  omega

theorem ins_all {x y : Nat → Int} (hx : RuleIn x) (hy : RuleIn y) (rx : Right x) (ry : Right y) :
    (insB (fieldsF x 0) (fieldsF x 1) (fieldsF x 2) (fieldsF x 3) (fieldsF y 0) (fieldsF y 1) (fieldsF y 2) (fieldsF y 3)
      && insB (fieldsF x 4) (fieldsF x 5) (fieldsF x 6) (fieldsF x 7) (fieldsF y 4) (fieldsF y 5) (fieldsF y 6) (fieldsF y 7)
      && insB (fieldsF x 8) (fieldsF x 9) (fieldsF x 10) (fieldsF x 11) (fieldsF y 8) (fieldsF y 9) (fieldsF y 10) (fieldsF y 11)
      && insB (fieldsF x 12) (fieldsF x 13) (fieldsF x 14) (fieldsF x 15) (fieldsF y 12) (fieldsF y 13) (fieldsF y 14) (fieldsF y 15)
      && insB (fieldsF x 16) (fieldsF x 17) (fieldsF x 18) (fieldsF x 19) (fieldsF y 16) (fieldsF y 17) (fieldsF y 18) (fieldsF y 19)
      && insB (fieldsF x 20) (fieldsF x 21) (fieldsF x 22) (fieldsF x 23) (fieldsF y 20) (fieldsF y 21) (fieldsF y 22) (fieldsF y 23)
      && insB (fieldsF x 24) (fieldsF x 25) (fieldsF x 26) (fieldsF x 27) (fieldsF y 24) (fieldsF y 25) (fieldsF y 26) (fieldsF y 27)) = insS x y := by
  have z : bitsI .andNot .u32 0 0 = 0 := andNot0 0 (by omega)
  have x0 := hx.b0.1
  have y0 := hy.b0.1
  have x1 := hx.b1.1
  have y1 := hy.b1.1
  have rx0 := rx.side
  have ry0 := ry.side
  have rx1 := rx.proto
  have ry1 := ry.proto
  have e1 : insB (fieldsF x 0) (fieldsF x 1) (fieldsF x 2) (fieldsF x 3) (fieldsF y 0) (fieldsF y 1) (fieldsF y 2) (fieldsF y 3) = (y 0 == 2 || x 0 == y 0) := by
    simp only [insB, fieldsF, and0, z, beq_self_eq_true, Bool.and_true]
    simp only [bif_beq]
    by_cases h : x 0 = 2 <;> by_cases h' : y 0 = 2 <;> rw [Bool.eq_iff_iff] <;> simp [h, h'] <;> omega
  have e2 : insB (fieldsF x 4) (fieldsF x 5) (fieldsF x 6) (fieldsF x 7) (fieldsF y 4) (fieldsF y 5) (fieldsF y 6) (fieldsF y 7) = (y 1 == 0 || x 1 == y 1) := by
    simp only [insB, fieldsF, and0, z, beq_self_eq_true, Bool.and_true]
    simp only [bif_beq]
    by_cases h : x 1 = 0 <;> by_cases h' : y 1 = 0 <;> rw [Bool.eq_iff_iff] <;> simp [h, h'] <;> omega
  have e3 : insB (fieldsF x 8) (fieldsF x 9) (fieldsF x 10) (fieldsF x 11) (fieldsF y 8) (fieldsF y 9) (fieldsF y 10) (fieldsF y 11) = subP (x 4) (x 5) (y 4) (y 5) := by
    simp only [insB, fieldsF, and0, z, beq_self_eq_true, Bool.and_true]
    rw [Bool.eq_iff_iff, subP_iff (hx.src rx) (hy.src ry)]
    simp
  have e4 : insB (fieldsF x 12) (fieldsF x 13) (fieldsF x 14) (fieldsF x 15) (fieldsF y 12) (fieldsF y 13) (fieldsF y 14) (fieldsF y 15) = subP (x 6) (x 7) (y 6) (y 7) := by
    simp only [insB, fieldsF, and0, z, beq_self_eq_true, Bool.and_true]
    rw [Bool.eq_iff_iff, subP_iff (hx.dst rx) (hy.dst ry)]
    simp
  have e5 : insB (fieldsF x 16) (fieldsF x 17) (fieldsF x 18) (fieldsF x 19) (fieldsF y 16) (fieldsF y 17) (fieldsF y 18) (fieldsF y 19) = (decide (y 8 ≤ x 8) && decide (x 9 ≤ y 9)) := by
    simp only [insB, fieldsF, and0, z, beq_self_eq_true, Bool.and_true]
  have e6 : insB (fieldsF x 20) (fieldsF x 21) (fieldsF x 22) (fieldsF x 23) (fieldsF y 20) (fieldsF y 21) (fieldsF y 22) (fieldsF y 23) = (decide (y 10 ≤ x 10) && decide (x 11 ≤ y 11)) := by
    simp only [insB, fieldsF, and0, z, beq_self_eq_true, Bool.and_true]
  have e7 : insB (fieldsF x 24) (fieldsF x 25) (fieldsF x 26) (fieldsF x 27) (fieldsF y 24) (fieldsF y 25) (fieldsF y 26) (fieldsF y 27) = (sub8 (y 2) (x 2) && flB (y 2) (y 3) (x 3)) := by
    have h0 := hx.b2
    have h1 := hx.b3
    have h2 := hy.b2
    have h3 := hy.b3
    simp only [insB, fieldsF, sub8_32 _ _ h0 h2]
    rw [and32 _ _ (by omega) (by omega)]
    unfold flB
    rw [sub8_and _ _ h3 h2 ry.want]
    generalize sub8 (y 2) (x 2) = sb
    rw [Bool.eq_iff_iff]
    cases sb <;> simp <;> omega
  rw [e1, e2, e3, e4, e5, e6, e7]
  rfl

theorem overlap_iff {p n q m : Int} (hp : Pfx p n) (hq : Pfx q m) : (subP p n q m || subP q m p n) = true ↔ max p q ≤ min (hiP p n) (hiP q m) := by
  rw [Bool.or_eq_true, subP_iff hp hq, subP_iff hq hp, hp.hi, hq.hi]
  have h1 := psz_pos n
  have h2 := psz_pos m
  constructor
  · rintro (h | h) <;> omega
  · intro h
    rcases Int.le_total m n with h3 | h3
    · have := hp.dis hq h3
      omega
    · have := hq.dis hp h3
      omega

theorem bif_max (a b : Int) : (bif decide (b > a) then b else a) = max a b := by
  by_cases h : b > a
  · rw [decide_eq_true h]; simp; omega
  · rw [decide_eq_false h]; simp; omega
theorem bif_min (a b : Int) : (bif decide (b < a) then b else a) = min a b := by
  by_cases h : b < a
  · rw [decide_eq_true h]; simp; omega
  · rw [decide_eq_false h]; simp; omega

theorem xor32 (x y : Int) (hx : 0 ≤ x ∧ x < 4294967296) (hy : 0 ≤ y ∧ y < 4294967296) : bitsI .xor .u32 x y = ((x.toNat ^^^ y.toNat : Nat) : Int) := by
  have : x.toNat ^^^ y.toNat < 2 ^ 32 := Nat.xor_lt_two_pow (by omega) (by omega)
  show IntKind.wrap .u32 ((BitVec.ofInt 32 x ^^^ BitVec.ofInt 32 y).toNat : Int) = _
  rw [BitVec.toNat_xor, bv_in 32 x hx.1 (by omega), bv_in 32 y hy.1 (by omega), nat_wrap32 _ (by omega)]

theorem meet_all {x y : Nat → Int} (hx : RuleIn x) (hy : RuleIn y) (rx : Right x) (ry : Right y) :
    (meetB (fieldsF x 0) (fieldsF x 1) (fieldsF x 2) (fieldsF x 3) (fieldsF y 0) (fieldsF y 1) (fieldsF y 2) (fieldsF y 3)
      && meetB (fieldsF x 4) (fieldsF x 5) (fieldsF x 6) (fieldsF x 7) (fieldsF y 4) (fieldsF y 5) (fieldsF y 6) (fieldsF y 7)
      && meetB (fieldsF x 8) (fieldsF x 9) (fieldsF x 10) (fieldsF x 11) (fieldsF y 8) (fieldsF y 9) (fieldsF y 10) (fieldsF y 11)
      && meetB (fieldsF x 12) (fieldsF x 13) (fieldsF x 14) (fieldsF x 15) (fieldsF y 12) (fieldsF y 13) (fieldsF y 14) (fieldsF y 15)
      && meetB (fieldsF x 16) (fieldsF x 17) (fieldsF x 18) (fieldsF x 19) (fieldsF y 16) (fieldsF y 17) (fieldsF y 18) (fieldsF y 19)
      && meetB (fieldsF x 20) (fieldsF x 21) (fieldsF x 22) (fieldsF x 23) (fieldsF y 20) (fieldsF y 21) (fieldsF y 22) (fieldsF y 23)
      && meetB (fieldsF x 24) (fieldsF x 25) (fieldsF x 26) (fieldsF x 27) (fieldsF y 24) (fieldsF y 25) (fieldsF y 26) (fieldsF y 27)) = cmS x y := by
  have z : bitsI .xor .u32 0 0 = 0 := by rw [xor32 0 0 (by omega) (by omega)]; simp
  have x0 := hx.b0.1
  have y0 := hy.b0.1
  have x1 := hx.b1.1
  have y1 := hy.b1.1
  have rx0 := rx.side
  have ry0 := ry.side
  have rx1 := rx.proto
  have ry1 := ry.proto
  have e1 : meetB (fieldsF x 0) (fieldsF x 1) (fieldsF x 2) (fieldsF x 3) (fieldsF y 0) (fieldsF y 1) (fieldsF y 2) (fieldsF y 3) = (x 0 == 2 || y 0 == 2 || x 0 == y 0) := by
    simp only [meetB, fieldsF, and0, z, beq_self_eq_true, Bool.and_true, bif_max, bif_min]
    simp only [bif_beq]
    by_cases h : x 0 = 2 <;> by_cases h' : y 0 = 2 <;> rw [Bool.eq_iff_iff] <;> simp [h, h'] <;> omega
  have e2 : meetB (fieldsF x 4) (fieldsF x 5) (fieldsF x 6) (fieldsF x 7) (fieldsF y 4) (fieldsF y 5) (fieldsF y 6) (fieldsF y 7) = (x 1 == 0 || y 1 == 0 || x 1 == y 1) := by
    simp only [meetB, fieldsF, and0, z, beq_self_eq_true, Bool.and_true, bif_max, bif_min]
    simp only [bif_beq]
    by_cases h : x 1 = 0 <;> by_cases h' : y 1 = 0 <;> rw [Bool.eq_iff_iff] <;> simp [h, h'] <;> omega
  have e3 : meetB (fieldsF x 8) (fieldsF x 9) (fieldsF x 10) (fieldsF x 11) (fieldsF y 8) (fieldsF y 9) (fieldsF y 10) (fieldsF y 11) = (subP (x 4) (x 5) (y 4) (y 5) || subP (y 4) (y 5) (x 4) (x 5)) := by
    simp only [meetB, fieldsF, and0, z, beq_self_eq_true, Bool.and_true, bif_max, bif_min]
    rw [Bool.eq_iff_iff, overlap_iff (hx.src rx) (hy.src ry), decide_eq_true_eq]
  have e4 : meetB (fieldsF x 12) (fieldsF x 13) (fieldsF x 14) (fieldsF x 15) (fieldsF y 12) (fieldsF y 13) (fieldsF y 14) (fieldsF y 15) = (subP (x 6) (x 7) (y 6) (y 7) || subP (y 6) (y 7) (x 6) (x 7)) := by
    simp only [meetB, fieldsF, and0, z, beq_self_eq_true, Bool.and_true, bif_max, bif_min]
    rw [Bool.eq_iff_iff, overlap_iff (hx.dst rx) (hy.dst ry), decide_eq_true_eq]
  have e5 : meetB (fieldsF x 16) (fieldsF x 17) (fieldsF x 18) (fieldsF x 19) (fieldsF y 16) (fieldsF y 17) (fieldsF y 18) (fieldsF y 19) = decide (max (x 8) (y 8) ≤ min (x 9) (y 9)) := by
    simp only [meetB, fieldsF, and0, z, beq_self_eq_true, Bool.and_true, bif_max, bif_min]
  have e6 : meetB (fieldsF x 20) (fieldsF x 21) (fieldsF x 22) (fieldsF x 23) (fieldsF y 20) (fieldsF y 21) (fieldsF y 22) (fieldsF y 23) = decide (max (x 10) (y 10) ≤ min (x 11) (y 11)) := by
    simp only [meetB, fieldsF, and0, z, beq_self_eq_true, Bool.and_true, bif_max, bif_min]
  have e7 : meetB (fieldsF x 24) (fieldsF x 25) (fieldsF x 26) (fieldsF x 27) (fieldsF y 24) (fieldsF y 25) (fieldsF y 26) (fieldsF y 27) = flM (x 2) (x 3) (y 2) (y 3) := by
    have h0 := hx.b2
    have h1 := hx.b3
    have h2 := hy.b2
    have h3 := hy.b3
    simp only [meetB, fieldsF, bif_max]
    have k1 : (x 3).toNat ^^^ (y 3).toNat < 2 ^ 8 := Nat.xor_lt_two_pow (by omega) (by omega)
    have k2 := @Nat.and_le_left ((x 3).toNat ^^^ (y 3).toNat) (x 2).toNat
    rw [xor32 _ _ (by omega) (by omega), and32 (((x 3).toNat ^^^ (y 3).toNat : Nat) : Int) (x 2) (by omega) (by omega), Int.toNat_natCast, and32 _ (y 2) (by omega) (by omega)]
    simp only [Int.toNat_natCast, flM]
    rw [Bool.eq_iff_iff]
    simp
  rw [e1, e2, e3, e4, e5, e6, e7]
  rfl

def all7i (x : Nat → Int) : Bool :=
  insB (x 0) (x 1) (x 2) (x 3) (x 28) (x 29) (x 30) (x 31) && insB (x 4) (x 5) (x 6) (x 7) (x 32) (x 33) (x 34) (x 35) && insB (x 8) (x 9) (x 10) (x 11) (x 36) (x 37) (x 38) (x 39) && insB (x 12) (x 13) (x 14) (x 15) (x 40) (x 41) (x 42) (x 43)
    && insB (x 16) (x 17) (x 18) (x 19) (x 44) (x 45) (x 46) (x 47) && insB (x 20) (x 21) (x 22) (x 23) (x 48) (x 49) (x 50) (x 51) && insB (x 24) (x 25) (x 26) (x 27) (x 52) (x 53) (x 54) (x 55)
def all7m (x : Nat → Int) : Bool :=
  meetB (x 0) (x 1) (x 2) (x 3) (x 28) (x 29) (x 30) (x 31) && meetB (x 4) (x 5) (x 6) (x 7) (x 32) (x 33) (x 34) (x 35) && meetB (x 8) (x 9) (x 10) (x 11) (x 36) (x 37) (x 38) (x 39) && meetB (x 12) (x 13) (x 14) (x 15) (x 40) (x 41) (x 42) (x 43)
    && meetB (x 16) (x 17) (x 18) (x 19) (x 44) (x 45) (x 46) (x 47) && meetB (x 20) (x 21) (x 22) (x 23) (x 48) (x 49) (x 50) (x 51) && meetB (x 24) (x 25) (x 26) (x 27) (x 52) (x 53) (x 54) (x 55)

/-- Whether a rule is within another one, and the error. -/
def winB (x y : Nat → Int) : Bool := (rightS x && rightS y) && insS x y
def winE (x y : Nat → Int) : Int := bif rightS x && rightS y then 0 else 260

def insI (m w m' w' : Int) : Bool := ((bitB m' 0 && (!bitB m 0 || !(bitB w 0 == bitB w' 0))) || ((bitB m' 1 && (!bitB m 1 || !(bitB w 1 == bitB w' 1))) || ((bitB m' 2 && (!bitB m 2 || !(bitB w 2 == bitB w' 2))) || ((bitB m' 3 && (!bitB m 3 || !(bitB w 3 == bitB w' 3))) || ((bitB m' 4 && (!bitB m 4 || !(bitB w 4 == bitB w' 4))) || ((bitB m' 5 && (!bitB m 5 || !(bitB w 5 == bitB w' 5))) || ((bitB m' 6 && (!bitB m 6 || !(bitB w 6 == bitB w' 6))) || (bitB m' 7 && (!bitB m 7 || !(bitB w 7 == bitB w' 7))))))))))
theorem sub8_flB (m w m' w' : Int) (hm : 0 ≤ m ∧ m < 256) (hm' : 0 ≤ m' ∧ m' < 256) : (sub8 m' m && flB m' w' w) = !insI m w m' w' := by
  have h1 := sub8_iff m' m hm
  have h2 := flB_iff m' w' w hm'
  rw [all8] at h1 h2
  rw [Bool.eq_iff_iff, Bool.and_eq_true, h1, h2]
  unfold insI
  have t : ∀ a b c d : Bool, (a && (!b || !(c == d))) = false ↔ (a = true → b = true) ∧ (a = true → d = c) := by decide
  simp only [Bool.not_eq_true', Bool.or_eq_false_iff, t]
  constructor
  · rintro ⟨⟨b0, b1, b2, b3, b4, b5, b6, b7⟩, c0, c1, c2, c3, c4, c5, c6, c7⟩
    exact ⟨⟨b0, c0⟩, ⟨b1, c1⟩, ⟨b2, c2⟩, ⟨b3, c3⟩, ⟨b4, c4⟩, ⟨b5, c5⟩, ⟨b6, c6⟩, ⟨b7, c7⟩⟩
  · rintro ⟨⟨b0, c0⟩, ⟨b1, c1⟩, ⟨b2, c2⟩, ⟨b3, c3⟩, ⟨b4, c4⟩, ⟨b5, c5⟩, ⟨b6, c6⟩, ⟨b7, c7⟩⟩
    exact ⟨⟨b0, b1, b2, b3, b4, b5, b6, b7⟩, c0, c1, c2, c3, c4, c5, c6, c7⟩
end Go.Proofs.YtbolcnlenmphhaaDoor
