/- Layer 26: a packet that one rule matches and another one does not, in plain terms: it is one. No program is in sight here. -/
import Derived.Test.YtbolcnlenmphhaaDoorFs
set_option linter.unusedVariables false
namespace Go.Proofs.YtbolcnlenmphhaaDoor
open Go Go.RowKit Ev

theorem other_has {lo hi lo' hi' : Int} (hle : lo ≤ hi) (h : insB lo hi 0 0 lo' hi' 0 0 = false) :
    hasB (otherB lo hi 0 0 lo' hi' 0 0) lo hi 0 0 = true ∧ hasB (otherB lo hi 0 0 lo' hi' 0 0) lo' hi' 0 0 = false := by
  rw [insB0] at h
  rw [hasB0, hasB0]
  unfold otherB
  by_cases h1 : lo < lo'
  · simp only [decide_eq_true h1, Bool.true_or, cond_true]
    simp; omega
  · by_cases h2 : hi > hi'
    · simp only [decide_eq_false h1, decide_eq_true h2, Bool.or_true, cond_true, cond_false]
      simp; omega
    · exfalso
      simp only [Bool.and_eq_false_iff, decide_eq_false_iff_not] at h
      omega

theorem low_bit : ∀ z : Nat, z < 256 → z ≠ 0 → ∃ k, k < 8 ∧ (z &&& (4294967296 - z)) = 2 ^ k ∧ z.testBit k = true := by decide +kernel

theorem high8 {m : Nat} (h : m < 256) {i : Nat} (hi : ¬ i < 8) : m.testBit i = false :=
  Nat.testBit_lt_two_pow (Nat.lt_of_lt_of_le (by omega : m < 2 ^ 8) (Nat.pow_le_pow_right (by omega) (by omega)))

/-- The bits that the second rule asks for and the first one does not, and of which the second one wants none. -/
def zN (m m' w' : Int) : Nat := (m'.toNat &&& (4294967295 - m.toNat)) &&& (4294967295 - w'.toNat)
theorem zN_bit (m m' w' : Int) (hm : 0 ≤ m ∧ m < 256) (hm' : 0 ≤ m' ∧ m' < 256) (hw' : 0 ≤ w' ∧ w' < 256) (i : Nat) (hi : i < 8) : (zN m m' w').testBit i = (bitB m' i && !bitB m i && !bitB w' i) := by
  unfold zN bitB
  have e1 : 4294967295 - m.toNat = 2 ^ 32 - (m.toNat + 1) := by omega
  have e2 : 4294967295 - w'.toNat = 2 ^ 32 - (w'.toNat + 1) := by omega
  rw [Nat.testBit_and, Nat.testBit_and, e1, e2, Nat.testBit_two_pow_sub_succ (by omega), Nat.testBit_two_pow_sub_succ (by omega)]
  simp [show i < 32 by omega]
theorem zN_lt (m m' w' : Int) (hm' : 0 ≤ m' ∧ m' < 256) : zN m m' w' < 256 := by
  have h1 := @Nat.and_le_left (m'.toNat &&& (4294967295 - m.toNat)) (4294967295 - w'.toNat)
  have h2 := @Nat.and_le_left m'.toNat (4294967295 - m.toNat)
  unfold zN
  omega
theorem otherZ_eq (m m' w' : Int) (hm : 0 ≤ m ∧ m < 256) (hm' : 0 ≤ m' ∧ m' < 256) (hw' : 0 ≤ w' ∧ w' < 256) : otherZ m m' w' = (zN m m' w' : Int) := by
  have h2 := @Nat.and_le_left m'.toNat (4294967295 - m.toNat)
  unfold otherZ zN
  rw [andNot32 m' m (by omega) (by omega), andNot32 _ w' (by omega) (by omega), Int.toNat_natCast]

theorem other_flags {m w m' w' : Int} (hm : 0 ≤ m ∧ m < 256) (hw : 0 ≤ w ∧ w < 256) (hm' : 0 ≤ m' ∧ m' < 256) (hw' : 0 ≤ w' ∧ w' < 256) (hs : sub8 w m = true) (h : insB 0 255 m w 0 255 m' w' = false) :
    (0 ≤ otherB 0 255 m w 0 255 m' w' ∧ otherB 0 255 m w 0 255 m' w' < 256) ∧ hasB (otherB 0 255 m w 0 255 m' w') 0 255 m w = true ∧ hasB (otherB 0 255 m w 0 255 m' w') 0 255 m' w' = false := by
  have hz := otherZ_eq m m' w' hm hm' hw'
  have hzl := zN_lt m m' w' hm'
  have hzb := zN_bit m m' w' hm hm' hw'
  have hsub := (sub8_iff w m hm).1 hs
  have e0 : otherB 0 255 m w 0 255 m' w' = bitsI .or .u32 w (bitsI .and .u32 (zN m m' w' : Int) (IntKind.wrap .u32 (0 - (zN m m' w' : Int)))) := by
    unfold otherB
    rw [hz]
    rfl
  by_cases hz0 : zN m m' w' = 0
  · have e1 : otherB 0 255 m w 0 255 m' w' = w := by
      rw [e0, hz0, or32 w _ (by omega) (by decide)]
      have : (bitsI .and .u32 ((0 : Nat) : Int) (IntKind.wrap .u32 (0 - ((0 : Nat) : Int)))) = 0 := by decide
      rw [this]
      simp
      omega
    rw [e1]
    refine ⟨hw, ?_, ?_⟩
    · simp only [hasB]
      rw [and32 w m (by omega) (by omega), sub8_and w m hw hm hs]
      simp
      omega
    · cases hh : hasB w 0 255 m' w'
      · rfl
      · exfalso
        simp only [hasB, Bool.and_eq_true, beq_iff_eq] at hh
        have hand := hh.2
        have hns : sub8 m' m = false := by
          cases hx : sub8 m' m
          · rfl
          · simp only [insB, sub8_32 m m' hm hm', hx, hand] at h
            simp at h
        have : ¬ ∀ i, i < 8 → bitB m' i = true → bitB m i = true := fun hall => by
          rw [(sub8_iff m' m hm).2 hall] at hns; cases hns
        apply this
        intro i hi hb
        cases hmi : bitB m i
        · exfalso
          have hzi := hzb i hi
          rw [hz0, hb, hmi] at hzi
          simp only [Nat.zero_testBit, Bool.not_false, Bool.and_true, Bool.true_and] at hzi
          have hwi' : bitB w' i = true := by
            cases hq : bitB w' i
            · rw [hq] at hzi; cases hzi
            · rfl
          rw [and32 w m' (by omega) (by omega)] at hand
          have : (w.toNat &&& m'.toNat) = w'.toNat := by omega
          have h3 := congrArg (fun n => n.testBit i) this
          simp only [Nat.testBit_and] at h3
          unfold bitB at hwi' hb
          rw [hb, hwi', Bool.and_true] at h3
          have h4 := hsub i hi h3
          rw [hmi] at h4; cases h4
        · rfl
  · obtain ⟨k, hk, hkz, hkb⟩ := low_bit _ hzl hz0
    have hk2 : 2 ^ k < 256 := by
      have : 2 ^ k < 2 ^ 8 := Nat.pow_lt_pow_right (by omega) hk
      simpa using this
    have hor : w.toNat ||| 2 ^ k < 2 ^ 8 := Nat.or_lt_two_pow (by omega) (by simpa using hk2)
    have e1 : otherB 0 255 m w 0 255 m' w' = ((w.toNat ||| 2 ^ k : Nat) : Int) := by
      have ew : IntKind.wrap .u32 (0 - (zN m m' w' : Int)) = ((4294967296 - zN m m' w' : Nat) : Int) := by rw [wrap32]; omega
      rw [e0, ew, and32 _ _ (by omega) (by omega), Int.toNat_natCast, Int.toNat_natCast, hkz, or32 w _ (by omega) (by omega), Int.toNat_natCast]
    have hkb' := hzb k hk
    rw [hkb] at hkb'
    have hb3 : bitB m' k = true ∧ bitB m k = false ∧ bitB w' k = false := by
      have t : ∀ a b c : Bool, true = (a && !b && !c) → a = true ∧ b = false ∧ c = false := by decide
      exact t _ _ _ hkb'
    obtain ⟨b1, b2, b3⟩ := hb3
    rw [e1]
    refine ⟨by omega, ?_, ?_⟩
    · simp only [hasB]
      rw [and32 _ m (by omega) (by omega), Int.toNat_natCast]
      have : (w.toNat ||| 2 ^ k) &&& m.toNat = w.toNat := by
        apply Nat.eq_of_testBit_eq
        intro i
        simp only [Nat.testBit_and, Nat.testBit_or, Nat.testBit_two_pow]
        by_cases hi : i < 8
        · have := hsub i hi
          unfold bitB at this b2
          by_cases hik : k = i
          · subst hik
            rw [b2]
            cases hwk : w.toNat.testBit k
            · simp
            · rw [this hwk] at b2; cases b2
          · simp only [hik, decide_false, Bool.or_false]
            cases hwk : w.toNat.testBit i
            · simp
            · simp [this hwk]
        · rw [high8 (by omega) hi, high8 (by omega) hi]
          simp
      rw [this]
      simp
      omega
    · simp only [hasB]
      rw [and32 _ m' (by omega) (by omega), Int.toNat_natCast]
      have : (w.toNat ||| 2 ^ k) &&& m'.toNat ≠ w'.toNat := fun hh => by
        have h3 := congrArg (fun n => n.testBit k) hh
        unfold bitB at b1 b3
        simp [Nat.testBit_and, Nat.testBit_or, b1, b3] at h3
      simp only [Bool.and_eq_false_iff, beq_eq_false_iff_ne]
      right
      omega

theorem least_upd_vals {x : Nat → Int} (hi : RuleIn x) (hr : Right x) : Vals (leastF x) := least_vals hi hr

theorem apart_num {x y : Nat → Int} (hx : RuleIn x) (hy : RuleIn y) (rx : Right x) (ry : Right y) : ∀ i, i < 7 → insI7 x y i = false → hasI7 x i (apN x y i) = true ∧ hasI7 y i (apN x y i) = false
  | 0, _, h => by
    have := rx.side
    have := hx.b0
    refine other_has ?_ h
    show (bif x 0 == 2 then 0 else x 0) ≤ (bif x 0 == 2 then 1 else x 0)
    cases x 0 == 2 <;> simp
  | 1, _, h => by
    have r1 := rx.proto
    have r2 := ry.proto
    have b1 := hx.b1
    by_cases h0 : x 1 = 0
    · have e : apN x y 1 = bif y 1 == 1 then 17 else 1 := by
        unfold apN
        rw [if_pos rfl, h0]
        rfl
      rw [e]
      have hi : insI7 x y 1 = insB 0 255 0 0 (bif y 1 == 0 then 0 else y 1) (bif y 1 == 0 then 255 else y 1) 0 0 := by
        show insB (bif x 1 == 0 then 0 else x 1) (bif x 1 == 0 then 255 else x 1) 0 0 _ _ 0 0 = _
        rw [h0]; rfl
      rw [hi, insB0, bif_beq, bif_beq] at h
      simp only [Bool.and_eq_false_iff, decide_eq_false_iff_not] at h
      have hy0 : y 1 ≠ 0 := by
        intro hh
        rw [hh] at h
        simp at h
      show hasB _ (bif x 1 == 0 then 0 else x 1) (bif x 1 == 0 then 255 else x 1) 0 0 = true ∧ hasB _ (bif y 1 == 0 then 0 else y 1) (bif y 1 == 0 then 255 else y 1) 0 0 = false
      rw [hasB0, hasB0, h0, beq_eq_false_iff_ne.2 hy0]
      have hb := hy.b1
      by_cases hy1 : y 1 = 1
      · rw [hy1]; decide
      · rw [beq_eq_false_iff_ne.2 hy1]
        simp only [cond_false, cond_true, show ((0 : Int) == 0) = true by decide, Bool.and_eq_true, decide_eq_true_eq, Bool.and_eq_false_iff, decide_eq_false_iff_not]
        omega
    · have e : apN x y 1 = othI7 x y 1 := by
        unfold apN
        rw [if_pos rfl, beq_eq_false_iff_ne.2 h0]
        rfl
      rw [e]
      refine other_has ?_ h
      show (bif x 1 == 0 then 0 else x 1) ≤ (bif x 1 == 0 then 255 else x 1)
      cases x 1 == 0 <;> simp
  | 2, _, h => by
    have := (hx.src rx).hi
    have := psz_pos (x 5)
    refine other_has ?_ h
    show x 4 ≤ hiP (x 4) (x 5)
    omega
  | 3, _, h => by
    have := (hx.dst rx).hi
    have := psz_pos (x 7)
    refine other_has ?_ h
    show x 6 ≤ hiP (x 6) (x 7)
    omega
  | 4, _, h => other_has (ports_le rx.sp) h
  | 5, _, h => other_has (ports_le rx.dp) h
  | 6, _, h => (other_flags hx.b2 hx.b3 hy.b2 hy.b3 rx.want h).2

theorem upd_same (v : Nat → Int) (i : Nat) (n : Int) : upd v i n i = n := by simp [upd]
theorem upd_ne (v : Nat → Int) {i j : Nat} (n : Int) (h : j ≠ i) : upd v i n j = v j := by simp [upd, h]

/-- The first place that is not within. -/
theorem apV_spec (x y : Nat → Int) (h : (insI7 x y 0 && insI7 x y 1 && insI7 x y 2 && insI7 x y 3 && insI7 x y 4 && insI7 x y 5 && insI7 x y 6) = false) :
    ∃ i, i < 7 ∧ insI7 x y i = false ∧ apV x y = upd (leastF x) i (apN x y i) ∧ ∀ j, j < i → insI7 x y j = true := by
  unfold apV
  cases h0 : insI7 x y 0
  · exact ⟨0, by omega, h0, rfl, fun j hj => by omega⟩
  cases h1 : insI7 x y 1
  · exact ⟨1, by omega, h1, rfl, fun j hj => by obtain rfl : j = 0 := by omega
                                                exact h0⟩
  cases h2 : insI7 x y 2
  · exact ⟨2, by omega, h2, rfl, fun j hj => by
      match j, hj with
      | 0, _ => exact h0
      | 1, _ => exact h1⟩
  cases h3 : insI7 x y 3
  · exact ⟨3, by omega, h3, rfl, fun j hj => by
      match j, hj with
      | 0, _ => exact h0
      | 1, _ => exact h1
      | 2, _ => exact h2⟩
  cases h4 : insI7 x y 4
  · exact ⟨4, by omega, h4, rfl, fun j hj => by
      match j, hj with
      | 0, _ => exact h0
      | 1, _ => exact h1
      | 2, _ => exact h2
      | 3, _ => exact h3⟩
  cases h5 : insI7 x y 5
  · exact ⟨5, by omega, h5, rfl, fun j hj => by
      match j, hj with
      | 0, _ => exact h0
      | 1, _ => exact h1
      | 2, _ => exact h2
      | 3, _ => exact h3
      | 4, _ => exact h4⟩
  rw [h0, h1, h2, h3, h4, h5] at h
  refine ⟨6, by omega, by simpa using h, rfl, fun j hj => ?_⟩
  match j, hj with
  | 0, _ => exact h0
  | 1, _ => exact h1
  | 2, _ => exact h2
  | 3, _ => exact h3
  | 4, _ => exact h4
  | 5, _ => exact h5

theorem has0 {x : Nat → Int} (hx : RuleIn x) (rx : Right x) {n : Int} (h : hasI7 x 0 n = true) : 0 ≤ n ∧ n ≤ 1 := by
  have h1 := rx.side
  have h2 := hx.b0
  have h' : hasB n (bif x 0 == 2 then 0 else x 0) (bif x 0 == 2 then 1 else x 0) 0 0 = true := h
  rw [hasB0] at h'
  simp only [bif_beq, Bool.and_eq_true, decide_eq_true_eq] at h'
  split at h' <;> omega

theorem apN1 {x y : Nat → Int} (rx : Right x) (hx : RuleIn x) (ry : Right y) (h : hasI7 x 1 (apN x y 1) = true) : apN x y 1 = 1 ∨ apN x y 1 = 6 ∨ apN x y 1 = 17 := by
  have r1 := rx.proto
  by_cases h0 : x 1 = 0
  · have e : apN x y 1 = bif y 1 == 1 then 17 else 1 := by
      unfold apN
      rw [if_pos rfl, h0]
      rfl
    rw [e]
    cases y 1 == 1 <;> simp
  · have h' : hasB (apN x y 1) (bif x 1 == 0 then 0 else x 1) (bif x 1 == 0 then 255 else x 1) 0 0 = true := h
    rw [hasB0, beq_eq_false_iff_ne.2 h0] at h'
    simp only [cond_false, Bool.and_eq_true, decide_eq_true_eq] at h'
    omega

theorem ap_vals {x y : Nat → Int} (hx : RuleIn x) (rx : Right x) (hy : RuleIn y) (ry : Right y) {i : Nat} (hi : i < 7) (h : insI7 x y i = false) : Vals (upd (leastF x) i (apN x y i)) := by
  have hv := least_vals hx rx
  have hn := (apart_num hx hy rx ry i hi h).1
  match i, hi with
  | 0, _ =>
    refine ⟨?_, hv.v1, hv.v4, hv.v5, hv.v6⟩
    rw [upd_same]
    exact has0 hx rx hn
  | 1, _ =>
    refine ⟨hv.v0, ?_, hv.v4, hv.v5, hv.v6⟩
    rw [upd_same]
    exact apN1 rx hx ry hn
  | 2, _ => exact ⟨hv.v0, hv.v1, hv.v4, hv.v5, hv.v6⟩
  | 3, _ => exact ⟨hv.v0, hv.v1, hv.v4, hv.v5, hv.v6⟩
  | 4, _ =>
    refine ⟨hv.v0, hv.v1, ?_, hv.v5, hv.v6⟩
    rw [upd_same]
    have b8 := hx.b8
    have b9 := hx.b9
    have h' : hasB (apN x y 4) (x 8) (x 9) 0 0 = true := hn
    rw [hasB0] at h'
    simp only [Bool.and_eq_true, decide_eq_true_eq] at h'
    omega
  | 5, _ =>
    refine ⟨hv.v0, hv.v1, hv.v4, ?_, hv.v6⟩
    rw [upd_same]
    have b8 := hx.b10
    have b9 := hx.b11
    have h' : hasB (apN x y 5) (x 10) (x 11) 0 0 = true := hn
    rw [hasB0] at h'
    simp only [Bool.and_eq_true, decide_eq_true_eq] at h'
    omega
  | 6, _ =>
    refine ⟨hv.v0, hv.v1, hv.v4, hv.v5, ?_⟩
    rw [upd_same]
    exact (other_flags hx.b2 hx.b3 hy.b2 hy.b3 rx.want h).1

theorem six {x y : Nat → Int} (hx : RuleIn x) (rx : Right x) (ry : Right y) (hy : RuleIn y) (hins : insI7 x y 6 = false) (h1 : insI7 x y 1 = true) : x 1 = 6 := by
  have hy1 : y 1 = 6 := by
    have hf := ry.flags
    rcases hf with hf | hf
    · exfalso
      have hz3 : y 3 = 0 := by
        have hs := ry.want
        rw [hf] at hs
        have h9 := sub8_and _ _ hy.b3 (by omega) hs
        have := hy.b3
        simp at h9
        omega
      have : insI7 x y 6 = true := by
        show insB 0 255 (x 2) (x 3) 0 255 (y 2) (y 3) = true
        have b2 := hx.b2
        rw [hf, hz3]
        unfold insB
        rw [and0, andNot0 (x 2) (by omega)]
        decide
      rw [this] at hins; cases hins
    · exact hf
  have r1 := rx.proto
  have h' : insB (bif x 1 == 0 then 0 else x 1) (bif x 1 == 0 then 255 else x 1) 0 0 (bif y 1 == 0 then 0 else y 1) (bif y 1 == 0 then 255 else y 1) 0 0 = true := h1
  rw [insB0, hy1] at h'
  by_cases hz : x 1 = 0
  · rw [hz] at h'
    exact absurd h' (by decide)
  · rw [beq_eq_false_iff_ne.2 hz] at h'
    simp only [cond_false, Bool.and_eq_true, decide_eq_true_eq, show ((6 : Int) == 0) = false by decide] at h'
    omega

/-- The packet that 'apart' returns is matched by the first rule, and not by the second one. -/
theorem apart_meets {x y : Nat → Int} (hx : RuleIn x) (hy : RuleIn y) (rx : Right x) (ry : Right y) (h : insS x y = false) : Vals (apV x y) ∧ meetsV x (apV x y) = true ∧ meetsV y (apV x y) = false := by
  rw [← ins_all hx hy rx ry] at h
  obtain ⟨i, hi, hins, hap, hbef⟩ := apV_spec x y h
  have hV := ap_vals hx rx hy ry hi hins
  obtain ⟨n1, n2⟩ := apart_num hx hy rx ry i hi hins
  rw [hap]
  refine ⟨hV, ?_, ?_⟩
  · rw [meetsV_eq hx rx hV]
    have hl := least_has hx rx
    have hh : ∀ j, j < 6 → hasI7 x j (upd (leastF x) i (apN x y i) j) = true := fun j hj => by
      by_cases hji : j = i
      · subst hji; rw [upd_same]; exact n1
      · rw [upd_ne _ _ hji]; exact hl j hj
    have hf : hasI7 x 6 (flagsF (upd (leastF x) i (apN x y i))) = true := by
      unfold flagsF
      by_cases h6 : i = 6
      · subst h6
        rw [upd_same, upd_ne _ _ (by omega)]
        have hx1 := six hx rx ry hy hins (hbef 1 (by omega))
        have e1 : leastF x 1 = 6 := by
          show (bif x 1 == 0 then 1 else x 1) = 6
          rw [hx1]; rfl
        rw [e1]
        exact n1
      · rw [upd_ne (i := i) (j := 6) _ _ (fun hh => h6 hh.symm)]
        refine has_flags hx rx _ fun hx6 => ?_
        by_cases h1 : i = 1
        · subst h1
          rw [upd_same]
          have h' : hasB (apN x y 1) (bif x 1 == 0 then 0 else x 1) (bif x 1 == 0 then 255 else x 1) 0 0 = true := n1
          rw [hasB0, hx6] at h'
          simp at h'
          omega
        · rw [upd_ne (i := i) (j := 1) _ _ (fun hh => h1 hh.symm)]
          show (bif x 1 == 0 then 1 else x 1) = 6
          rw [hx6]; rfl
    rw [hh 0 (by omega), hh 1 (by omega), hh 2 (by omega), hh 3 (by omega), hh 4 (by omega), hh 5 (by omega), hf]
    rfl
  · rw [meetsV_eq hy ry hV]
    have key : ∀ j, j < 6 → j = i → hasI7 y j (upd (leastF x) i (apN x y i) j) = false := fun j hj hji => by
      subst hji; rw [upd_same]; exact n2
    match i, hi with
    | 0, _ => rw [key 0 (by omega) rfl]; rfl
    | 1, _ => rw [key 1 (by omega) rfl, Bool.and_false]; rfl
    | 2, _ => rw [key 2 (by omega) rfl, Bool.and_false]; rfl
    | 3, _ => rw [key 3 (by omega) rfl, Bool.and_false]; rfl
    | 4, _ => rw [key 4 (by omega) rfl, Bool.and_false]; rfl
    | 5, _ => rw [key 5 (by omega) rfl, Bool.and_false]; rfl
    | 6, _ =>
      have hx1 := six hx rx ry hy hins (hbef 1 (by omega))
      have e2 : flagsF (upd (leastF x) 6 (apN x y 6)) = apN x y 6 := by
        unfold flagsF
        rw [upd_same, upd_ne (i := 6) (j := 1) _ _ (by omega)]
        have e1 : leastF x 1 = 6 := by
          show (bif x 1 == 0 then 1 else x 1) = 6
          rw [hx1]; rfl
        rw [e1]
        rfl
      rw [e2, n2, Bool.and_false]
end Go.Proofs.YtbolcnlenmphhaaDoor
