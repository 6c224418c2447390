/- Layer 26: a packet that a rule matches; a packet that one rule matches and another one does not; in plain terms. No program is in sight here. -/
import Derived.Test.YtbolcnlenmphhaaDoorFc
set_option linter.unusedVariables false
namespace Go.Proofs.YtbolcnlenmphhaaDoor
open Go Go.RowKit Ev

def leastF (x : Nat → Int) : Nat → Int
  | 0 => bif x 0 == 2 then 0 else x 0
  | 1 => bif x 1 == 0 then 1 else x 1
  | 2 => x 4
  | 3 => x 6
  | 4 => x 8
  | 5 => x 10
  | _ => x 3
/-- The packet of seven values: its side, its facts. -/
def packF (v : Nat → Int) : Nat → Int
  | 0 => IntKind.wrap .u8 (v 0)
  | 1 => IntKind.wrap .u8 (v 1)
  | 2 => v 2
  | 3 => v 3
  | 4 => IntKind.wrap .u16 (v 4)
  | 5 => IntKind.wrap .u16 (v 5)
  | 6 => bif IntKind.wrap .u8 (v 1) == 6 then 1 else bif IntKind.wrap .u8 (v 1) == 17 then 2 else 3
  | 7 => bif IntKind.wrap .u8 (v 1) == 6 then IntKind.wrap .u8 (v 6) else 0
  | _ => 0
def otherZ (b b' w' : Int) : Int := bitsI .andNot .u32 (bitsI .andNot .u32 b' b) w'
def otherB (lo hi b w lo' hi' b' w' : Int) : Int :=
  bif decide (lo < lo') || decide (hi > hi') then (bif decide (lo < lo') then lo else hi)
  else bitsI .or .u32 w (bitsI .and .u32 (otherZ b b' w') (IntKind.wrap .u32 (0 - otherZ b b' w')))
/-- One condition within another one, one that a number meets, the number apart: by the conditions' place. -/
def insI7 (x y : Nat → Int) (i : Nat) : Bool := insB (fieldsF x (4 * i)) (fieldsF x (4 * i + 1)) (fieldsF x (4 * i + 2)) (fieldsF x (4 * i + 3)) (fieldsF y (4 * i)) (fieldsF y (4 * i + 1)) (fieldsF y (4 * i + 2)) (fieldsF y (4 * i + 3))
def othI7 (x y : Nat → Int) (i : Nat) : Int := otherB (fieldsF x (4 * i)) (fieldsF x (4 * i + 1)) (fieldsF x (4 * i + 2)) (fieldsF x (4 * i + 3)) (fieldsF y (4 * i)) (fieldsF y (4 * i + 1)) (fieldsF y (4 * i + 2)) (fieldsF y (4 * i + 3))
def hasI7 (x : Nat → Int) (i : Nat) (n : Int) : Bool := hasB n (fieldsF x (4 * i)) (fieldsF x (4 * i + 1)) (fieldsF x (4 * i + 2)) (fieldsF x (4 * i + 3))
def upd (v : Nat → Int) (i : Nat) (n : Int) : Nat → Int := fun j => if j = i then n else v j
/-- The value that takes the place of the i-th one. -/
def apN (x y : Nat → Int) (i : Nat) : Int := if i = 1 then (bif x 1 == 0 then (bif y 1 == 1 then 17 else 1) else othI7 x y 1) else othI7 x y i
def apV (x y : Nat → Int) : Nat → Int :=
  bif !insI7 x y 0 then upd (leastF x) 0 (apN x y 0) else bif !insI7 x y 1 then upd (leastF x) 1 (apN x y 1) else bif !insI7 x y 2 then upd (leastF x) 2 (apN x y 2)
  else bif !insI7 x y 3 then upd (leastF x) 3 (apN x y 3) else bif !insI7 x y 4 then upd (leastF x) 4 (apN x y 4) else bif !insI7 x y 5 then upd (leastF x) 5 (apN x y 5) else upd (leastF x) 6 (apN x y 6)

/-- A packet's values that are none of the wrong ones. -/
structure Vals (v : Nat → Int) : Prop where
  v0 : 0 ≤ v 0 ∧ v 0 ≤ 1
  v1 : v 1 = 1 ∨ v 1 = 6 ∨ v 1 = 17
  v4 : 0 ≤ v 4 ∧ v 4 < 65536
  v5 : 0 ≤ v 5 ∧ v 5 < 65536
  v6 : 0 ≤ v 6 ∧ v 6 < 256
def flagsF (v : Nat → Int) : Int := bif v 1 == 6 then v 6 else 0
/-- Whether a rule matches the packet of some values. -/
def meetsV (x v : Nat → Int) : Bool := meetsS x (packF v 0) (packF v 1) (packF v 2) (packF v 3) (packF v 4) (packF v 5) (packF v 7)

theorem Vals.pack {v : Nat → Int} (h : Vals v) : packF v 0 = v 0 ∧ packF v 1 = v 1 ∧ packF v 4 = v 4 ∧ packF v 5 = v 5 ∧ packF v 7 = flagsF v := by
  have h0 := h.v0
  have h1 := h.v1
  have h4 := h.v4
  have h5 := h.v5
  have h6 := h.v6
  have e1 : IntKind.wrap .u8 (v 1) = v 1 := by rw [wrap8]; omega
  refine ⟨?_, e1, ?_, ?_, ?_⟩
  · show IntKind.wrap .u8 (v 0) = v 0
    rw [wrap8]; omega
  · show IntKind.wrap .u16 (v 4) = v 4
    rw [wrap16]; omega
  · show IntKind.wrap .u16 (v 5) = v 5
    rw [wrap16]; omega
  · show (bif IntKind.wrap .u8 (v 1) == 6 then IntKind.wrap .u8 (v 6) else 0) = flagsF v
    rw [e1, show IntKind.wrap .u8 (v 6) = v 6 by rw [wrap8]; omega]
    rfl
theorem Vals.good {v : Nat → Int} (h : Vals v) : goodP (packF v 0) (packF v 1) = true := by
  rw [h.pack.1, h.pack.2.1]
  have h0 := h.v0
  have h1 := h.v1
  unfold goodP
  simp
  omega
theorem Vals.flags {v : Nat → Int} (h : Vals v) : 0 ≤ flagsF v ∧ flagsF v < 256 := by
  have h6 := h.v6
  unfold flagsF
  cases v 1 == 6 <;> simp only [cond_true, cond_false] <;> omega

theorem meetsV_eq {x v : Nat → Int} (hi : RuleIn x) (hr : Right x) (h : Vals v) :
    meetsV x v = (hasI7 x 0 (v 0) && hasI7 x 1 (v 1) && hasI7 x 2 (v 2) && hasI7 x 3 (v 3) && hasI7 x 4 (v 4) && hasI7 x 5 (v 5) && hasI7 x 6 (flagsF v)) := by
  obtain ⟨p0, p1, p4, p5, p7⟩ := h.pack
  unfold meetsV
  have h0 := h.v0
  have h1 := h.v1
  rw [← has_all hi hr h.good (by rw [p0]; omega) (by rw [p1]; omega) (by rw [p7]; exact h.flags), p0, p1, p4, p5, p7]
  rfl

theorem least_vals {x : Nat → Int} (hi : RuleIn x) (hr : Right x) : Vals (leastF x) := by
  have h0 := hi.b0
  have h1 := hr.side
  have h2 := hr.proto
  refine ⟨?_, ?_, hi.b8, hi.b10, hi.b3⟩
  · show 0 ≤ (bif x 0 == 2 then 0 else x 0) ∧ (bif x 0 == 2 then 0 else x 0) ≤ 1
    rw [bif_beq]
    split <;> omega
  · show (bif x 1 == 0 then 1 else x 1) = 1 ∨ (bif x 1 == 0 then 1 else x 1) = 6 ∨ (bif x 1 == 0 then 1 else x 1) = 17
    rw [bif_beq]
    split <;> omega

theorem hasB0 (n lo hi : Int) : hasB n lo hi 0 0 = (decide (lo ≤ n) && decide (n ≤ hi)) := by
  simp only [hasB, and0, beq_self_eq_true, Bool.and_true]
theorem insB0 (lo hi lo' hi' : Int) : insB lo hi 0 0 lo' hi' 0 0 = (decide (lo' ≤ lo) && decide (hi ≤ hi')) := by
  simp only [insB, and0, andNot0 0 (by omega), beq_self_eq_true, Bool.and_true]

theorem ports_le {p : Bool} {f t : Int} (h : rR p f t = true) : f ≤ t := by
  cases p <;> simp [rR] at h <;> omega

theorem has_flags {x : Nat → Int} (hi : RuleIn x) (hr : Right x) (v1 : Int) (h : x 1 = 6 → v1 = 6) : hasI7 x 6 (bif v1 == 6 then x 3 else 0) = true := by
  have h2 := hi.b2
  have h3 := hi.b3
  show hasB (bif v1 == 6 then x 3 else 0) 0 255 (x 2) (x 3) = true
  by_cases h6 : x 1 = 6
  · rw [h h6]
    simp only [beq_self_eq_true, cond_true, hasB]
    rw [and32 _ _ (by omega) (by omega), sub8_and _ _ h3 h2 hr.want]
    simp
    omega
  · have hz : x 2 = 0 := by have := hr.flags; omega
    have hs := hr.want
    rw [hz] at hs
    have hz3 : x 3 = 0 := by
      have := sub8_and _ _ h3 (by omega) hs
      simp at this
      omega
    rw [hz, hz3]
    cases v1 == 6 <;> decide

theorem least_has {x : Nat → Int} (hi : RuleIn x) (hr : Right x) : ∀ i, i < 6 → hasI7 x i (leastF x i) = true
  | 0, _ => by
    show hasB (bif x 0 == 2 then 0 else x 0) (bif x 0 == 2 then 0 else x 0) (bif x 0 == 2 then 1 else x 0) 0 0 = true
    rw [hasB0]
    cases x 0 == 2 <;> simp
  | 1, _ => by
    have := hi.b1
    show hasB (bif x 1 == 0 then 1 else x 1) (bif x 1 == 0 then 0 else x 1) (bif x 1 == 0 then 255 else x 1) 0 0 = true
    rw [hasB0]
    cases x 1 == 0 <;> simp
  | 2, _ => by
    have h := (hi.src hr).hi
    have := psz_pos (x 5)
    show hasB (x 4) (x 4) (hiP (x 4) (x 5)) 0 0 = true
    rw [hasB0, h]
    simp; omega
  | 3, _ => by
    have h := (hi.dst hr).hi
    have := psz_pos (x 7)
    show hasB (x 6) (x 6) (hiP (x 6) (x 7)) 0 0 = true
    rw [hasB0, h]
    simp; omega
  | 4, _ => by
    have := ports_le hr.sp
    show hasB (x 8) (x 8) (x 9) 0 0 = true
    rw [hasB0]
    simp; omega
  | 5, _ => by
    have := ports_le hr.dp
    show hasB (x 10) (x 10) (x 11) 0 0 = true
    rw [hasB0]
    simp; omega

/-- A rule matches its sample. -/
theorem sample_meets {x : Nat → Int} (hi : RuleIn x) (hr : Right x) : meetsV x (leastF x) = true := by
  rw [meetsV_eq hi hr (least_vals hi hr)]
  have h := least_has hi hr
  rw [h 0 (by omega), h 1 (by omega), h 2 (by omega), h 3 (by omega), h 4 (by omega), h 5 (by omega)]
  have hf := has_flags hi hr (leastF x 1) (fun h6 => by show (bif x 1 == 0 then 1 else x 1) = 6; rw [h6]; rfl)
  simp only [Bool.true_and]
  exact hf
end Go.Proofs.YtbolcnlenmphhaaDoor
