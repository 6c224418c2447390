/- Layer 26: what Sample and Apart return, in plain terms; the numbers' bounds. No program is in sight here. -/
import Derived.Test.YtbolcnlenmphhaaDoorFt
set_option linter.unusedVariables false
namespace Go.Proofs.YtbolcnlenmphhaaDoor
open Go Go.RowKit Ev

theorem bits32_in (op : BinOp) (x y : Int) : 0 ≤ bitsI op .u32 x y ∧ bitsI op .u32 x y < 4294967296 := by
  have h : ∀ z : Int, 0 ≤ IntKind.wrap .u32 z ∧ IntKind.wrap .u32 z < 4294967296 := fun z => by rw [wrap32]; omega
  unfold bitsI
  split <;> exact h _
theorem otherB_in {lo hi b w lo' hi' b' w' : Int} (h1 : 0 ≤ lo ∧ lo < 4294967296) (h2 : 0 ≤ hi ∧ hi < 4294967296) : 0 ≤ otherB lo hi b w lo' hi' b' w' ∧ otherB lo hi b w lo' hi' b' w' < 4294967296 := by
  have hb := bits32_in .or w (bitsI .and .u32 (otherZ b b' w') (IntKind.wrap .u32 (0 - otherZ b b' w')))
  unfold otherB
  generalize bitsI .or .u32 w (bitsI .and .u32 (otherZ b b' w') (IntKind.wrap .u32 (0 - otherZ b b' w'))) = r at hb ⊢
  cases decide (lo < lo') || decide (hi > hi')
  · exact hb
  · cases decide (lo < lo')
    · exact h2
    · exact h1
theorem othI7_in {x y : Nat → Int} (hx : RuleIn x) (i : Nat) : 0 ≤ othI7 x y i ∧ othI7 x y i < 4294967296 := otherB_in (fieldsF_in hx _) (fieldsF_in hx _)
theorem apN_in {x y : Nat → Int} (hx : RuleIn x) (i : Nat) : 0 ≤ apN x y i ∧ apN x y i < 4294967296 := by
  unfold apN
  split
  · cases x 1 == 0
    · exact othI7_in hx 1
    · cases y 1 == 1 <;> simp only [cond_true, cond_false] <;> omega
  · exact othI7_in hx i
theorem leastF_in {x : Nat → Int} (hx : RuleIn x) (i : Nat) : 0 ≤ leastF x i ∧ leastF x i < 4294967296 := by
  have h0 := hx.b0
  have h1 := hx.b1
  have h3 := hx.b3
  have h8 := hx.b8
  have h10 := hx.b10
  unfold leastF
  split
  · cases x 0 == 2 <;> simp only [cond_true, cond_false] <;> omega
  · cases x 1 == 0 <;> simp only [cond_true, cond_false] <;> omega
  · exact hx.b4
  · exact hx.b6
  all_goals omega
theorem upd_in {v : Nat → Int} {i : Nat} {n : Int} (hv : ∀ j, 0 ≤ v j ∧ v j < 4294967296) (hn : 0 ≤ n ∧ n < 4294967296) (j : Nat) : 0 ≤ upd v i n j ∧ upd v i n j < 4294967296 := by
  unfold upd
  split
  · exact hn
  · exact hv j
theorem apV_in {x y : Nat → Int} (hx : RuleIn x) (j : Nat) : 0 ≤ apV x y j ∧ apV x y j < 4294967296 := by
  have h : ∀ i, 0 ≤ upd (leastF x) i (apN x y i) j ∧ upd (leastF x) i (apN x y i) j < 4294967296 := fun i => upd_in (leastF_in hx) (apN_in hx i) j
  unfold apV
  cases insI7 x y 0
  · exact h 0
  cases insI7 x y 1
  · exact h 1
  cases insI7 x y 2
  · exact h 2
  cases insI7 x y 3
  · exact h 3
  cases insI7 x y 4
  · exact h 4
  cases insI7 x y 5
  · exact h 5
  exact h 6

theorem or0 (a : Int) (h : 0 ≤ a ∧ a < 4294967296) : bitsI .or .u32 a 0 = a := by
  rw [or32 a 0 h (by omega)]; simp; omega
theorem zor (a : Int) (h : 0 ≤ a ∧ a < 4294967296) : bitsI .or .u32 0 a = a := by
  rw [or32 0 a (by omega) h]; simp; omega

/-- What Sample returns: side, facts, error. -/
def samO (x : Nat → Int) (j : Nat) : Int := if j = 20 then (bif rightS x then 0 else 260) else bif rightS x then packF (leastF x) j else 0
/-- What Apart returns. -/
def apO (x y : Nat → Int) (j : Nat) : Int :=
  if j = 20 then (bif rightS x && rightS y then (bif insS x y then 6 else 0) else 260)
  else bif rightS x && rightS y then (bif insS x y then 0 else packF (apV x y) j) else 0

theorem matE_of {x : Nat → Int} : (matF x && matE x == 0) = matF x := by
  unfold matF matE
  cases rightS x <;> cases goodP (x 13) (x 14) <;> simp

theorem packF_congr {v v' : Nat → Int} (h : ∀ i, i < 7 → v i = v' i) (j : Nat) : packF v j = packF v' j := by
  unfold packF
  split <;> simp only [h 0 (by omega), h 1 (by omega), h 2 (by omega), h 3 (by omega), h 4 (by omega), h 5 (by omega), h 6 (by omega)]
end Go.Proofs.YtbolcnlenmphhaaDoor
