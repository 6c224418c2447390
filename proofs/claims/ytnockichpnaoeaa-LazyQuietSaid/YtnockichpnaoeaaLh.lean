/- Layer 19: LazyQuiet. -/
import Derived.Test.YtnockichpnaoeaaLe
set_option linter.unusedVariables false
set_option linter.unusedSimpArgs false
namespace Go.Proofs.Ytnockichpnaoeaa.Ew
open Go Go.RowKit
noncomputable section
--P Try.prog G0

/-- A timer that is touched in each tick. -/
def QI (n0 many far S now bu le mo T h ln vn D i : Int) : Prop := ∃ d a, LZ S now bu le mo T h ln vn D 1 d a [] ∧ d 0 = n0 + (i - 1) + far ∧ a 0 = n0 + far + vn * (far - 1) ∧ now < a 0 ∧ now = n0 + (i - 1) ∧ bu = 1 ∧ h = 1 ∧ mo ≤ i ∧ vn < i ∧ 1 ≤ i ∧ i ≤ many + 1 ∧ (1 ≤ far ∧ far ≤ 600) ∧ (0 ≤ n0 ∧ n0 < 1073741824) ∧ (0 ≤ many ∧ many < 200) ∧ (far = 1 → i = 1)
def preQ1 (xs : List Int) : Prop := QI (env xs 0) (env xs 1) (env xs 2) (env xs 3) (env xs 4) (env xs 5) (env xs 6) (env xs 7) (env xs 8) (env xs 9) (env xs 10) (env xs 11) (env xs 12) (env xs 13)
def postQ1 (xs ys : List Int) : Prop := QI (env xs 0) (env xs 1) (env xs 2) (env ys 0) (env ys 1) (env ys 2) (env ys 3) (env ys 4) (env ys 5) (env ys 6) (env ys 7) (env ys 8) (env ys 9) (if env xs 2 = 1 then 1 else env xs 1 + 1)
def muQ1 (xs : List Int) : Nat := (env xs 1 + 1 - env xs 13).toNat
def pQ1 : List Bool := [true,true,true,true,true,false,true,false]
def lbQ1 : LEnt := ⟨⟨9003, 999999, [i64, i64, i64, lzS, i64], [wobL, lzO], [], .tup [], z0, preQ1⟩, [0, 1, 2, 7, 9], [], [9, 10, 11] ++ (List.range 29).map (· + 43), [.ex 0], 137, []⟩
/-- How often it may have been handled in vain. -/
def QV (many far vn : Int) : Prop := far = 1 ∧ vn = 0 ∨ 1 < far ∧ vn * (far - 1) ≤ many + far - 2
/-- A timer that is not touched any more. -/
def QE (many far S now bu le mo T h ln vn D i : Int) : Prop := ∃ d a, LZ S now bu le mo T h ln vn D 1 d a [] ∧ (d 0 - now = many + far + 1 - i ∧ now < a 0 ∧ (a 0 = d 0 ∧ QV many far vn ∨ a 0 < d 0 ∧ QV many far (vn + 1)) ∨ i = many + far + 1 ∧ d 0 = 0 ∧ QV many far vn) ∧ bu = 1 ∧ h = 1 ∧ mo ≤ i + 1 ∧ (vn ≤ i + 1) ∧ 1 ≤ i ∧ i ≤ many + far + 1 ∧ (1 ≤ far ∧ far ≤ 600) ∧ (0 ≤ many ∧ many < 200) ∧ now < 1099511627776 - 2000 + i
def preQ2 (xs : List Int) : Prop := QE (env xs 0) (env xs 1) (env xs 2) (env xs 3) (env xs 4) (env xs 5) (env xs 6) (env xs 7) (env xs 8) (env xs 9) (env xs 10) (env xs 11) (env xs 12)
def postQ2 (xs ys : List Int) : Prop := QE (env xs 0) (env xs 1) (env ys 0) (env ys 1) (env ys 2) (env ys 3) (env ys 4) (env ys 5) (env ys 6) (env ys 7) (env ys 8) (env ys 9) (env xs 0 + env xs 1 + 1) ∧ env ys 1 = env xs 3 + (env xs 0 + env xs 1 + 1 - env xs 12)
def muQ2 (xs : List Int) : Nat := (env xs 0 + env xs 1 + 1 - env xs 12).toNat
def pQ2 : List Bool := [true,true,true,true,true,true,true,false,true,false]
def lbQ2 : LEnt := ⟨⟨9103, 999999, [i64, i64, lzS, i64], [wobL, lzO], [], .tup [], z0, preQ2⟩, [1, 2, 7, 12], [], [12, 13, 14] ++ (List.range 25).map (· + 76), [.ex 2], 137, []⟩
def cQ1 : Ctx := ⟨[z14, z13], []⟩
def cQ1n : Ctx := cQ1.nm

def a_Q1_0 : List E := [(.var .x 3), (.var (.i .i64) 4), (.var (.i .i64) 5), (.var (.i .i64) 6), (.var (.i .i64) 7), (.var .x 8), (.var (.i .i64) 9), (.var (.i .i64) 10), (.var (.i .i64) 11), (.var .x 12)]
def a_Q1_1 : List E := [(.var .x 640002009609024), (.var (.i .i64) 640002009609025), (.var (.i .i64) 640002009609026), (.var (.i .i64) 640002009609027), (.var (.i .i64) 640002009609028), (.var .x 640002009609029), (.var (.i .i64) 640002009609030), (.var (.i .i64) 640002009609031), (.var (.i .i64) 640002009609032), (.var .x 640002009609033), (.lit (.i .i64) 0), (.bin .add .i64 (.bin .add .i64 (.var (.i .i64) 0) (.var (.i .i64) 13)) (.var (.i .i64) 2))]
def defs_Q1 : List (Nat × E) := [(640002009609024, (.app .x 100000314 0 a_Q1_0)),
  (640002009609025, (.app (.i .i64) 100000314 1 a_Q1_0)),
  (640002009609026, (.app (.i .i64) 100000314 2 a_Q1_0)),
  (640002009609027, (.app (.i .i64) 100000314 3 a_Q1_0)),
  (640002009609028, (.app (.i .i64) 100000314 4 a_Q1_0)),
  (640002009609029, (.app .x 100000314 5 a_Q1_0)),
  (640002009609030, (.app (.i .i64) 100000314 6 a_Q1_0)),
  (640002009609031, (.app (.i .i64) 100000314 7 a_Q1_0)),
  (640002009609032, (.app (.i .i64) 100000314 8 a_Q1_0)),
  (640002009609033, (.app .x 100000314 9 a_Q1_0)),
  (640002009609034, (.app .x 100000314 10 a_Q1_0)),
  (640002003209536, (.app .x 100000313 0 a_Q1_1)),
  (640002003209537, (.app (.i .i64) 100000313 1 a_Q1_1)),
  (640002003209538, (.app (.i .i64) 100000313 2 a_Q1_1)),
  (640002003209539, (.app (.i .i64) 100000313 3 a_Q1_1)),
  (640002003209540, (.app (.i .i64) 100000313 4 a_Q1_1)),
  (640002003209541, (.app .x 100000313 5 a_Q1_1)),
  (640002003209542, (.app (.i .i64) 100000313 6 a_Q1_1)),
  (640002003209543, (.app (.i .i64) 100000313 7 a_Q1_1)),
  (640002003209544, (.app (.i .i64) 100000313 8 a_Q1_1)),
  (640002003209545, (.app .x 100000313 9 a_Q1_1)),
  (640002003209546, (.app (.i .i64) 100000313 10 a_Q1_1))]
def q_Q1_0 : E := (.cmp .neq (.app (.i .i64) 0 0 [(.var .x 640002009609034)]) (.lit (.i .i64) 0))
def q_Q1_1 : E := (.or q_Q1_0 (.cmp .neq (.var (.i .i64) 640002003209546) (.lit (.i .i64) 0)))
def q_Q1_2 : E := (.and (.cmp .leq (.var (.i .i64) 13) (.var (.i .i64) 1)) (.and (.not (.cmp .eql (.var (.i .i64) 2) (.lit (.i .i64) 1))) (.not q_Q1_1)))
def q_Q1_3 : E := (.not q_Q1_0)
def q_Q1_4 : E := (.ite q_Q1_3 (.var .x 640002003209536) (.var .x 640002009609024))
def q_Q1_5 : E := (.ite q_Q1_3 (.var (.i .i64) 640002003209537) (.var (.i .i64) 640002009609025))
def q_Q1_6 : E := (.ite q_Q1_3 (.var (.i .i64) 640002003209538) (.var (.i .i64) 640002009609026))
def q_Q1_7 : E := (.ite q_Q1_3 (.var (.i .i64) 640002003209539) (.var (.i .i64) 640002009609027))
def q_Q1_8 : E := (.ite q_Q1_3 (.var (.i .i64) 640002003209540) (.var (.i .i64) 640002009609028))
def q_Q1_9 : E := (.ite q_Q1_3 (.var .x 640002003209541) (.var .x 640002009609029))
def q_Q1_10 : E := (.ite q_Q1_3 (.var (.i .i64) 640002003209542) (.var (.i .i64) 640002009609030))
def q_Q1_11 : E := (.ite q_Q1_3 (.var (.i .i64) 640002003209543) (.var (.i .i64) 640002009609031))
def q_Q1_12 : E := (.ite q_Q1_3 (.var (.i .i64) 640002003209544) (.var (.i .i64) 640002009609032))
def q_Q1_13 : E := (.ite q_Q1_3 (.var .x 640002003209545) (.var .x 640002009609033))
def q_Q1_14 : E := (.or (.not (.cmp .leq (.var (.i .i64) 13) (.var (.i .i64) 1))) (.and (.cmp .leq (.var (.i .i64) 13) (.var (.i .i64) 1)) (.cmp .eql (.var (.i .i64) 2) (.lit (.i .i64) 1))))
def ob_Q1 : E := (.and (.and (.or (.not (.cmp .leq (.var (.i .i64) 13) (.var (.i .i64) 1))) (.or (.cmp .eql (.var (.i .i64) 2) (.lit (.i .i64) 1)) (.and (.and (.app .b 100000314 1000000 [(.var .x 3), (.var (.i .i64) 4), (.var (.i .i64) 5), (.var (.i .i64) 6), (.var (.i .i64) 7), (.var .x 8), (.var (.i .i64) 9), (.var (.i .i64) 10), (.var (.i .i64) 11), (.var .x 12)]) (dE defs_Q1 0 11)) (.or q_Q1_0 (.and (.app .b 100000313 1000000 [(.var .x 640002009609024), (.var (.i .i64) 640002009609025), (.var (.i .i64) 640002009609026), (.var (.i .i64) 640002009609027), (.var (.i .i64) 640002009609028), (.var .x 640002009609029), (.var (.i .i64) 640002009609030), (.var (.i .i64) 640002009609031), (.var (.i .i64) 640002009609032), (.var .x 640002009609033), (.lit (.i .i64) 0), (.bin .add .i64 (.bin .add .i64 (.var (.i .i64) 0) (.var (.i .i64) 13)) (.var (.i .i64) 2))]) (dE defs_Q1 11 11)))))) (.or (.not q_Q1_2) (.and (.ite q_Q1_3 q_Q1_3 q_Q1_0) (.app .b 9003 1000000 [(.var (.i .i64) 0), (.var (.i .i64) 1), (.var (.i .i64) 2), q_Q1_4, q_Q1_5, q_Q1_6, q_Q1_7, q_Q1_8, q_Q1_9, q_Q1_10, q_Q1_11, q_Q1_12, q_Q1_13, (.bin .add .i64 (.var (.i .i64) 13) (.lit (.i .i64) 1))])))) (.and (.or (.not (.or q_Q1_14 q_Q1_2)) (.ite q_Q1_14 q_Q1_14 (.not q_Q1_14))) (.not (.and (.cmp .leq (.var (.i .i64) 13) (.var (.i .i64) 1)) (.and (.not (.cmp .eql (.var (.i .i64) 2) (.lit (.i .i64) 1))) q_Q1_1)))))
def es_Q1 : List E := [(.ite q_Q1_14 (.var .x 3) (.app .x 9003 0 [(.var (.i .i64) 0), (.var (.i .i64) 1), (.var (.i .i64) 2), q_Q1_4, q_Q1_5, q_Q1_6, q_Q1_7, q_Q1_8, q_Q1_9, q_Q1_10, q_Q1_11, q_Q1_12, q_Q1_13, (.bin .add .i64 (.var (.i .i64) 13) (.lit (.i .i64) 1))])), (.ite q_Q1_14 (.var (.i .i64) 4) (.app (.i .i64) 9003 1 [(.var (.i .i64) 0), (.var (.i .i64) 1), (.var (.i .i64) 2), q_Q1_4, q_Q1_5, q_Q1_6, q_Q1_7, q_Q1_8, q_Q1_9, q_Q1_10, q_Q1_11, q_Q1_12, q_Q1_13, (.bin .add .i64 (.var (.i .i64) 13) (.lit (.i .i64) 1))])), (.ite q_Q1_14 (.var (.i .i64) 5) (.app (.i .i64) 9003 2 [(.var (.i .i64) 0), (.var (.i .i64) 1), (.var (.i .i64) 2), q_Q1_4, q_Q1_5, q_Q1_6, q_Q1_7, q_Q1_8, q_Q1_9, q_Q1_10, q_Q1_11, q_Q1_12, q_Q1_13, (.bin .add .i64 (.var (.i .i64) 13) (.lit (.i .i64) 1))])), (.ite q_Q1_14 (.var (.i .i64) 6) (.app (.i .i64) 9003 3 [(.var (.i .i64) 0), (.var (.i .i64) 1), (.var (.i .i64) 2), q_Q1_4, q_Q1_5, q_Q1_6, q_Q1_7, q_Q1_8, q_Q1_9, q_Q1_10, q_Q1_11, q_Q1_12, q_Q1_13, (.bin .add .i64 (.var (.i .i64) 13) (.lit (.i .i64) 1))])), (.ite q_Q1_14 (.var (.i .i64) 7) (.app (.i .i64) 9003 4 [(.var (.i .i64) 0), (.var (.i .i64) 1), (.var (.i .i64) 2), q_Q1_4, q_Q1_5, q_Q1_6, q_Q1_7, q_Q1_8, q_Q1_9, q_Q1_10, q_Q1_11, q_Q1_12, q_Q1_13, (.bin .add .i64 (.var (.i .i64) 13) (.lit (.i .i64) 1))])), (.ite q_Q1_14 (.var .x 8) (.app .x 9003 5 [(.var (.i .i64) 0), (.var (.i .i64) 1), (.var (.i .i64) 2), q_Q1_4, q_Q1_5, q_Q1_6, q_Q1_7, q_Q1_8, q_Q1_9, q_Q1_10, q_Q1_11, q_Q1_12, q_Q1_13, (.bin .add .i64 (.var (.i .i64) 13) (.lit (.i .i64) 1))])), (.ite q_Q1_14 (.var (.i .i64) 9) (.app (.i .i64) 9003 6 [(.var (.i .i64) 0), (.var (.i .i64) 1), (.var (.i .i64) 2), q_Q1_4, q_Q1_5, q_Q1_6, q_Q1_7, q_Q1_8, q_Q1_9, q_Q1_10, q_Q1_11, q_Q1_12, q_Q1_13, (.bin .add .i64 (.var (.i .i64) 13) (.lit (.i .i64) 1))])), (.ite q_Q1_14 (.var (.i .i64) 10) (.app (.i .i64) 9003 7 [(.var (.i .i64) 0), (.var (.i .i64) 1), (.var (.i .i64) 2), q_Q1_4, q_Q1_5, q_Q1_6, q_Q1_7, q_Q1_8, q_Q1_9, q_Q1_10, q_Q1_11, q_Q1_12, q_Q1_13, (.bin .add .i64 (.var (.i .i64) 13) (.lit (.i .i64) 1))])), (.ite q_Q1_14 (.var (.i .i64) 11) (.app (.i .i64) 9003 8 [(.var (.i .i64) 0), (.var (.i .i64) 1), (.var (.i .i64) 2), q_Q1_4, q_Q1_5, q_Q1_6, q_Q1_7, q_Q1_8, q_Q1_9, q_Q1_10, q_Q1_11, q_Q1_12, q_Q1_13, (.bin .add .i64 (.var (.i .i64) 13) (.lit (.i .i64) 1))])), (.ite q_Q1_14 (.var .x 12) (.app .x 9003 9 [(.var (.i .i64) 0), (.var (.i .i64) 1), (.var (.i .i64) 2), q_Q1_4, q_Q1_5, q_Q1_6, q_Q1_7, q_Q1_8, q_Q1_9, q_Q1_10, q_Q1_11, q_Q1_12, q_Q1_13, (.bin .add .i64 (.var (.i .i64) 13) (.lit (.i .i64) 1))]))]
def leQ1 : LEnt := lbQ1.fw (fnL lbQ1 cQ1n.l ob_Q1 es_Q1 postQ1 muQ1)
theorem ev_Q1 : evL Try.prog G0 (tabOf cQ1n.fs) (evFn Try.prog G0 (tabOf cQ1n.fs) (ltOf cQ1n.ls) 40 10) 40 (subL cQ1n.ls 3 pQ1) leQ1 (bodyAt Try.prog 3 pQ1) = some (ob_Q1, es_Q1) := by kernel_rfl

def a_Q2_0 : List E := [(.var .x 2), (.var (.i .i64) 3), (.var (.i .i64) 4), (.var (.i .i64) 5), (.var (.i .i64) 6), (.var .x 7), (.var (.i .i64) 8), (.var (.i .i64) 9), (.var (.i .i64) 10), (.var .x 11)]
def defs_Q2 : List (Nat × E) := [(640002009609024, (.app .x 100000314 0 a_Q2_0)),
  (640002009609025, (.app (.i .i64) 100000314 1 a_Q2_0)),
  (640002009609026, (.app (.i .i64) 100000314 2 a_Q2_0)),
  (640002009609027, (.app (.i .i64) 100000314 3 a_Q2_0)),
  (640002009609028, (.app (.i .i64) 100000314 4 a_Q2_0)),
  (640002009609029, (.app .x 100000314 5 a_Q2_0)),
  (640002009609030, (.app (.i .i64) 100000314 6 a_Q2_0)),
  (640002009609031, (.app (.i .i64) 100000314 7 a_Q2_0)),
  (640002009609032, (.app (.i .i64) 100000314 8 a_Q2_0)),
  (640002009609033, (.app .x 100000314 9 a_Q2_0)),
  (640002009609034, (.app .x 100000314 10 a_Q2_0))]
def q_Q2_0 : E := (.cmp .leq (.var (.i .i64) 12) (.bin .add .i64 (.var (.i .i64) 0) (.var (.i .i64) 1)))
def q_Q2_1 : E := (.not q_Q2_0)
def q_Q2_2 : E := (.cmp .eql (.cmp .eql (.app (.i .i64) 0 0 [(.var .x 640002009609034)]) (.lit (.i .i64) 1)) (.cmp .eql (.var (.i .i64) 12) (.bin .add .i64 (.var (.i .i64) 0) (.var (.i .i64) 1))))
def q_Q2_3 : E := (.and q_Q2_0 q_Q2_2)
def ob_Q2 : E := (.and (.and (.or q_Q2_1 (.and (.app .b 100000314 1000000 [(.var .x 2), (.var (.i .i64) 3), (.var (.i .i64) 4), (.var (.i .i64) 5), (.var (.i .i64) 6), (.var .x 7), (.var (.i .i64) 8), (.var (.i .i64) 9), (.var (.i .i64) 10), (.var .x 11)]) (dE defs_Q2 0 11))) (.or (.not q_Q2_3) (.app .b 9103 1000000 [(.var (.i .i64) 0), (.var (.i .i64) 1), (.var .x 640002009609024), (.var (.i .i64) 640002009609025), (.var (.i .i64) 640002009609026), (.var (.i .i64) 640002009609027), (.var (.i .i64) 640002009609028), (.var .x 640002009609029), (.var (.i .i64) 640002009609030), (.var (.i .i64) 640002009609031), (.var (.i .i64) 640002009609032), (.var .x 640002009609033), (.bin .add .i64 (.var (.i .i64) 12) (.lit (.i .i64) 1))]))) (.and (.or (.not (.or q_Q2_1 q_Q2_3)) (.ite q_Q2_1 q_Q2_1 q_Q2_0)) (.not (.and q_Q2_0 (.not q_Q2_2)))))
def es_Q2 : List E := [(.ite q_Q2_1 (.var .x 2) (.app .x 9103 0 [(.var (.i .i64) 0), (.var (.i .i64) 1), (.var .x 640002009609024), (.var (.i .i64) 640002009609025), (.var (.i .i64) 640002009609026), (.var (.i .i64) 640002009609027), (.var (.i .i64) 640002009609028), (.var .x 640002009609029), (.var (.i .i64) 640002009609030), (.var (.i .i64) 640002009609031), (.var (.i .i64) 640002009609032), (.var .x 640002009609033), (.bin .add .i64 (.var (.i .i64) 12) (.lit (.i .i64) 1))])), (.ite q_Q2_1 (.var (.i .i64) 3) (.app (.i .i64) 9103 1 [(.var (.i .i64) 0), (.var (.i .i64) 1), (.var .x 640002009609024), (.var (.i .i64) 640002009609025), (.var (.i .i64) 640002009609026), (.var (.i .i64) 640002009609027), (.var (.i .i64) 640002009609028), (.var .x 640002009609029), (.var (.i .i64) 640002009609030), (.var (.i .i64) 640002009609031), (.var (.i .i64) 640002009609032), (.var .x 640002009609033), (.bin .add .i64 (.var (.i .i64) 12) (.lit (.i .i64) 1))])), (.ite q_Q2_1 (.var (.i .i64) 4) (.app (.i .i64) 9103 2 [(.var (.i .i64) 0), (.var (.i .i64) 1), (.var .x 640002009609024), (.var (.i .i64) 640002009609025), (.var (.i .i64) 640002009609026), (.var (.i .i64) 640002009609027), (.var (.i .i64) 640002009609028), (.var .x 640002009609029), (.var (.i .i64) 640002009609030), (.var (.i .i64) 640002009609031), (.var (.i .i64) 640002009609032), (.var .x 640002009609033), (.bin .add .i64 (.var (.i .i64) 12) (.lit (.i .i64) 1))])), (.ite q_Q2_1 (.var (.i .i64) 5) (.app (.i .i64) 9103 3 [(.var (.i .i64) 0), (.var (.i .i64) 1), (.var .x 640002009609024), (.var (.i .i64) 640002009609025), (.var (.i .i64) 640002009609026), (.var (.i .i64) 640002009609027), (.var (.i .i64) 640002009609028), (.var .x 640002009609029), (.var (.i .i64) 640002009609030), (.var (.i .i64) 640002009609031), (.var (.i .i64) 640002009609032), (.var .x 640002009609033), (.bin .add .i64 (.var (.i .i64) 12) (.lit (.i .i64) 1))])), (.ite q_Q2_1 (.var (.i .i64) 6) (.app (.i .i64) 9103 4 [(.var (.i .i64) 0), (.var (.i .i64) 1), (.var .x 640002009609024), (.var (.i .i64) 640002009609025), (.var (.i .i64) 640002009609026), (.var (.i .i64) 640002009609027), (.var (.i .i64) 640002009609028), (.var .x 640002009609029), (.var (.i .i64) 640002009609030), (.var (.i .i64) 640002009609031), (.var (.i .i64) 640002009609032), (.var .x 640002009609033), (.bin .add .i64 (.var (.i .i64) 12) (.lit (.i .i64) 1))])), (.ite q_Q2_1 (.var .x 7) (.app .x 9103 5 [(.var (.i .i64) 0), (.var (.i .i64) 1), (.var .x 640002009609024), (.var (.i .i64) 640002009609025), (.var (.i .i64) 640002009609026), (.var (.i .i64) 640002009609027), (.var (.i .i64) 640002009609028), (.var .x 640002009609029), (.var (.i .i64) 640002009609030), (.var (.i .i64) 640002009609031), (.var (.i .i64) 640002009609032), (.var .x 640002009609033), (.bin .add .i64 (.var (.i .i64) 12) (.lit (.i .i64) 1))])), (.ite q_Q2_1 (.var (.i .i64) 8) (.app (.i .i64) 9103 6 [(.var (.i .i64) 0), (.var (.i .i64) 1), (.var .x 640002009609024), (.var (.i .i64) 640002009609025), (.var (.i .i64) 640002009609026), (.var (.i .i64) 640002009609027), (.var (.i .i64) 640002009609028), (.var .x 640002009609029), (.var (.i .i64) 640002009609030), (.var (.i .i64) 640002009609031), (.var (.i .i64) 640002009609032), (.var .x 640002009609033), (.bin .add .i64 (.var (.i .i64) 12) (.lit (.i .i64) 1))])), (.ite q_Q2_1 (.var (.i .i64) 9) (.app (.i .i64) 9103 7 [(.var (.i .i64) 0), (.var (.i .i64) 1), (.var .x 640002009609024), (.var (.i .i64) 640002009609025), (.var (.i .i64) 640002009609026), (.var (.i .i64) 640002009609027), (.var (.i .i64) 640002009609028), (.var .x 640002009609029), (.var (.i .i64) 640002009609030), (.var (.i .i64) 640002009609031), (.var (.i .i64) 640002009609032), (.var .x 640002009609033), (.bin .add .i64 (.var (.i .i64) 12) (.lit (.i .i64) 1))])), (.ite q_Q2_1 (.var (.i .i64) 10) (.app (.i .i64) 9103 8 [(.var (.i .i64) 0), (.var (.i .i64) 1), (.var .x 640002009609024), (.var (.i .i64) 640002009609025), (.var (.i .i64) 640002009609026), (.var (.i .i64) 640002009609027), (.var (.i .i64) 640002009609028), (.var .x 640002009609029), (.var (.i .i64) 640002009609030), (.var (.i .i64) 640002009609031), (.var (.i .i64) 640002009609032), (.var .x 640002009609033), (.bin .add .i64 (.var (.i .i64) 12) (.lit (.i .i64) 1))])), (.ite q_Q2_1 (.var .x 11) (.app .x 9103 9 [(.var (.i .i64) 0), (.var (.i .i64) 1), (.var .x 640002009609024), (.var (.i .i64) 640002009609025), (.var (.i .i64) 640002009609026), (.var (.i .i64) 640002009609027), (.var (.i .i64) 640002009609028), (.var .x 640002009609029), (.var (.i .i64) 640002009609030), (.var (.i .i64) 640002009609031), (.var (.i .i64) 640002009609032), (.var .x 640002009609033), (.bin .add .i64 (.var (.i .i64) 12) (.lit (.i .i64) 1))]))]
def leQ2 : LEnt := lbQ2.fw (fnL lbQ2 cQ1n.l ob_Q2 es_Q2 postQ2 muQ2)
theorem ev_Q2 : evL Try.prog G0 (tabOf cQ1n.fs) (evFn Try.prog G0 (tabOf cQ1n.fs) (ltOf cQ1n.ls) 40 10) 40 (subL cQ1n.ls 3 pQ2) leQ2 (bodyAt Try.prog 3 pQ2) = some (ob_Q2, es_Q2) := by kernel_rfl

section
variable {S now bu le mo T h ln vn D c : Int} {d a : Nat → Int} {B : List Nat} {S' now' bu' le' mo' T' h' ln' vn' D' : Int}
/-- A tick with one timer and one hand. -/
theorem LZ.tick1 {O : Int} (hz : LZ S now bu le mo T h ln vn D 1 d a []) (h1 : h = 1) (hm : mo + bu ≤ 1125899906842624) (hv : vn + 4096 ≤ 1125899906842624) (hn : now < 1099511627776)
    (ho : isOut z14.fn [S, now, bu, le, mo, T, h, ln, vn, D] 0 [.x, .i .i64, .i .i64, .i .i64, .i .i64, .x, .i .i64, .i .i64, .i .i64, .x, .x] [S', now', bu', le', mo', T', h', ln', vn', D', O]) :
    ∃ d' a', LZ S' now' bu' le' mo' T' h' ln' vn' D' 1 d' a' [] ∧ now' = now + 1 ∧ bu' = bu ∧ (mo ≤ mo' ∧ mo' ≤ mo + bu) ∧ h' = 1 ∧
      ((a 0 ≠ now + 1 ∧ d' 0 = d 0 ∧ a' 0 = a 0 ∧ dc O = [] ∧ vn' = vn) ∨ (a 0 = now + 1 ∧ now + 1 < d 0 ∧ d' 0 = d 0 ∧ a' 0 = d 0 ∧ dc O = [] ∧ vn' = vn + 1) ∨ (a 0 = now + 1 ∧ d 0 = now + 1 ∧ d' 0 = 0 ∧ a' 0 = 0 ∧ dc O = [[0]] ∧ vn' = vn)) := by
  subst h1
  obtain ⟨N, P, n1, n2, z1, o11, m2, m3, m5, m7, m9⟩ := hz.tickZ hm hv ho
  rw [nowT_lt hn] at z1 o11 m2 m9
  obtain ⟨ad1, ad2, ad3⟩ := hz.ad 0 (by decide)
  have hB0 : ¬ (0 < a 0 ∧ a 0 ≤ now) := fun hh => by
    have := (hz.w.mem 0).2 ⟨by decide, hh⟩
    cases this
  by_cases ha : a 0 = now + 1
  · have hP : P = [0] := by
      rw [n2]
      have h0 : 0 ∈ N := (n1 0).2 ⟨hn, by decide, ha⟩
      cases N with
      | nil => cases h0
      | cons x t =>
        have hx := ((n1 x).1 (by simp)).2.1
        obtain rfl : x = 0 := by omega
        rfl
    subst hP
    by_cases hd : now + 1 < d 0
    · obtain ⟨g1, g2, g3, g4⟩ := cm1v (a := a) hd
      rw [g3] at o11
      rw [g4] at m9
      have eB : List.drop (Int.toNat 1) ([] ++ N) = [] := none_of fun j hj => by
        have hh := (z1.w.mem j).1 hj
        obtain rfl : j = 0 := by omega
        omega
      rw [eB] at z1
      exact ⟨_, _, z1, m2, m3, m5, m7, Or.inr (Or.inl ⟨ha, hd, g1, g2, o11, m9⟩)⟩
    · obtain ⟨g1, g2, g3, g4⟩ := cm1 (a := a) (show d 0 ≤ now + 1 by omega)
      rw [g3] at o11
      rw [g4] at m9
      have eB : List.drop (Int.toNat 1) ([] ++ N) = [] := none_of fun j hj => by
        have hh := (z1.w.mem j).1 hj
        obtain rfl : j = 0 := by omega
        omega
      rw [eB] at z1
      exact ⟨_, _, z1, m2, m3, m5, m7, Or.inr (Or.inr ⟨ha, by omega, g1, g2, o11, by omega⟩)⟩
  · have hN : N = [] := none_of fun j hj => by
      obtain ⟨_, j2, j3⟩ := (n1 j).1 hj
      obtain rfl : j = 0 := by omega
      exact ha j3
    subst hN
    have hP : P = [] := n2
    subst hP
    rw [cm_nilD, cm_nilA] at z1
    exact ⟨d, a, z1, m2, m3, m5, m7, Or.inl ⟨ha, rfl, rfl, o11, m9.trans (Int.add_zero _)⟩⟩
end

theorem cQ1ok : cQ1.OK Try.prog G0 := (Ctx.OK.nil.addF okz13.1 rfl).addF okz14.1 rfl
set_option maxHeartbeats 4000000 in
theorem okQ1 : ItemOK Try.prog G0 3 pQ1 leQ1 ∧ PostOK leQ1.ent postQ1 := by
  refine cQ1ok.nm.loopH mixed rfl ⟨_, _, _, Try.func3, rfl, rfl⟩ ev_Q1 (by kernel_rfl) _ rfl fun xs hf hp φ hφ => ?_
  obtain ⟨l, hl, hS, hF⟩ := self_H lbQ1 φ muQ1 (muQ1 xs) cQ1n.l (by decide)
  show ∃ ρ : Nat → Int, _ ∧ ob_Q1.tt (Tabs.F (enH lbQ1 φ muQ1 (muQ1 xs) :: cQ1n.l)) ρ = true ∧ postQ1 xs (es_Q1.map (E.den (Tabs.F (enH lbQ1 φ muQ1 (muQ1 xs) :: cQ1n.l)) ρ))
  rw [hl]
  replace hφ : ∀ ys, fits [(.i .i64), (.i .i64), (.i .i64), .x, (.i .i64), (.i .i64), (.i .i64), (.i .i64), .x, (.i .i64), (.i .i64), (.i .i64), .x, (.i .i64)] ys → lbQ1.ent.pre ys → muQ1 ys < muQ1 xs → postQ1 ys (outsE φ ys 0 lbQ1.ent.oks) := hφ
  have F9003 := FC (k := 9003) rfl hS
  have F313 := FC (k := 100000313) rfl (hF z13.nm (by rfl) (by decide) (by decide))
  have F314 := FC (k := 100000314) rfl (hF z14.nm (by rfl) (by decide) (by decide))
  replace hf : fits [(.i .i64), (.i .i64), (.i .i64), .x, (.i .i64), (.i .i64), (.i .i64), (.i .i64), .x, (.i .i64), (.i .i64), (.i .i64), .x, (.i .i64)] xs := hf
  obtain ⟨n, xs0, hx0, hn, hf0⟩ := fits_cons hf
  obtain ⟨m, xs1, hx1, hm, hf1⟩ := fits_cons hf0
  obtain ⟨k, xs2, hx2, hk, hf2⟩ := fits_cons hf1
  obtain ⟨S, xs3, hx3, hS, hf3⟩ := fits_cons hf2
  obtain ⟨now, xs4, hx4, hnow, hf4⟩ := fits_cons hf3
  obtain ⟨bu, xs5, hx5, hbu, hf5⟩ := fits_cons hf4
  obtain ⟨le, xs6, hx6, hle, hf6⟩ := fits_cons hf5
  obtain ⟨mo, xs7, hx7, hmo, hf7⟩ := fits_cons hf6
  obtain ⟨T, xs8, hx8, hT, hf8⟩ := fits_cons hf7
  obtain ⟨h, xs9, hx9, hh, hf9⟩ := fits_cons hf8
  obtain ⟨ln, xs10, hx10, hln, hf10⟩ := fits_cons hf9
  obtain ⟨vn, xs11, hx11, hvn, hf11⟩ := fits_cons hf10
  obtain ⟨D, xs12, hx12, hD, hf12⟩ := fits_cons hf11
  obtain ⟨i, xs13, hx13, hi, hf13⟩ := fits_cons hf12
  have hxn := fits_nil hf13
  subst hxn hx13 hx12 hx11 hx10 hx9 hx8 hx7 hx6 hx5 hx4 hx3 hx2 hx1 hx0
  simp only [norm_i] at hn hm hk hnow hbu hle hmo hh hln hvn hi
  obtain ⟨ρ, hρ, hd⟩ := solve (F := l.F) 14 defs_Q1 (by kernel_rfl) [n, m, k, S, now, bu, le, mo, T, h, ln, vn, D, i]
  have hDf := dE_tt (by kernel_rfl) hd
  refine ⟨ρ, hρ, ?_⟩
  have r0 : ρ 0 = n := hρ 0 (by decide)
  have r1 : ρ 1 = m := hρ 1 (by decide)
  have r2 : ρ 2 = k := hρ 2 (by decide)
  have r3 : ρ 3 = S := hρ 3 (by decide)
  have r4 : ρ 4 = now := hρ 4 (by decide)
  have r5 : ρ 5 = bu := hρ 5 (by decide)
  have r6 : ρ 6 = le := hρ 6 (by decide)
  have r7 : ρ 7 = mo := hρ 7 (by decide)
  have r8 : ρ 8 = T := hρ 8 (by decide)
  have r9 : ρ 9 = h := hρ 9 (by decide)
  have r10 : ρ 10 = ln := hρ 10 (by decide)
  have r11 : ρ 11 = vn := hρ 11 (by decide)
  have r12 : ρ 12 = D := hρ 12 (by decide)
  have r13 : ρ 13 = i := hρ 13 (by decide)
  obtain ⟨v1, hv1, hd1, hn1⟩ := nmd hd 0 rfl
  obtain ⟨v2, hv2, hd2, hn2⟩ := nmd hd 1 rfl
  obtain ⟨v3, hv3, hd3, hn3⟩ := nmd hd 2 rfl
  obtain ⟨v4, hv4, hd4, hn4⟩ := nmd hd 3 rfl
  obtain ⟨v5, hv5, hd5, hn5⟩ := nmd hd 4 rfl
  obtain ⟨v6, hv6, hd6, hn6⟩ := nmd hd 5 rfl
  obtain ⟨v7, hv7, hd7, hn7⟩ := nmd hd 6 rfl
  obtain ⟨v8, hv8, hd8, hn8⟩ := nmd hd 7 rfl
  obtain ⟨v9, hv9, hd9, hn9⟩ := nmd hd 8 rfl
  obtain ⟨v10, hv10, hd10, hn10⟩ := nmd hd 9 rfl
  obtain ⟨v11, hv11, hd11, hn11⟩ := nmd hd 10 rfl
  obtain ⟨v12, hv12, hd12, hn12⟩ := nmd hd 11 rfl
  obtain ⟨v13, hv13, hd13, hn13⟩ := nmd hd 12 rfl
  obtain ⟨v14, hv14, hd14, hn14⟩ := nmd hd 13 rfl
  obtain ⟨v15, hv15, hd15, hn15⟩ := nmd hd 14 rfl
  obtain ⟨v16, hv16, hd16, hn16⟩ := nmd hd 15 rfl
  obtain ⟨v17, hv17, hd17, hn17⟩ := nmd hd 16 rfl
  obtain ⟨v18, hv18, hd18, hn18⟩ := nmd hd 17 rfl
  obtain ⟨v19, hv19, hd19, hn19⟩ := nmd hd 18 rfl
  obtain ⟨v20, hv20, hd20, hn20⟩ := nmd hd 19 rfl
  obtain ⟨v21, hv21, hd21, hn21⟩ := nmd hd 20 rfl
  obtain ⟨v22, hv22, hd22, hn22⟩ := nmd hd 21 rfl
  simp only [norm_i] at hn2 hn3 hn4 hn5 hn7 hn8 hn9 hn13 hn14 hn15 hn16 hn18 hn19 hn20 hn22
  simp (disch := omega) only [norm_i, a_Q1_0, a_Q1_1, F313, F314, Ent.nm_fn, r0, hn, r1, hm, r2, hk, r3, r4, hnow, r5, hbu, r6, hle, r7, hmo, r8, r9, hh, r10, hln, r11, hvn, r12, r13, hi, hv1, hv2, hn2, hv3, hn3, hv4, hn4, hv5, hn5, hv6, hv7, hn7, hv8, hn8, hv9, hn9, hv10, hv11, hv12, hv13, hn13, hv14, hn14, hv15, hn15, hv16, hn16, hv17, hv18, hn18, hv19, hn19, hv20, hn20, hv21, hv22, hn22, ewA, ewL, preC, binI, dvI, shI, cmpB, env, bi, List.headD, List.tail, List.map, Nat.reduceAdd, ewR, ewB, ewM, if_true, if_false, implies_true, forall_const, ne_eq, reduceCtorEq, Int.reduceEq, Int.reduceLT, Int.reduceLE, Int.reduceToNat, Int.reduceAdd, Int.reduceSub, Int.reduceMul, Int.reduceNeg, Int.reduceBEq, Nat.reduceLT, Nat.reduceEqDiff] at hd1 hd2 hd3 hd4 hd5 hd6 hd7 hd8 hd9 hd10 hd11 hd12 hd13 hd14 hd15 hd16 hd17 hd18 hd19 hd20 hd21 hd22
  have hSS := And.intro (And.intro (And.intro (And.intro (And.intro (And.intro F9003 F313) (And.intro F314 r0)) (And.intro (And.intro hn r1) (And.intro hm r2))) (And.intro (And.intro (And.intro hk r3) (And.intro r4 hnow)) (And.intro (And.intro r5 hbu) (And.intro r6 hle)))) (And.intro (And.intro (And.intro (And.intro r7 hmo) (And.intro r8 r9)) (And.intro (And.intro hh r10) (And.intro hln r11))) (And.intro (And.intro (And.intro hvn r12) (And.intro r13 hi)) (And.intro (And.intro hv1 hv2) (And.intro hn2 (And.intro hv3 hn3)))))) (And.intro (And.intro (And.intro (And.intro (And.intro hv4 hn4) (And.intro hv5 hn5)) (And.intro (And.intro hv6 hv7) (And.intro hn7 hv8))) (And.intro (And.intro (And.intro hn8 hv9) (And.intro hn9 hv10)) (And.intro (And.intro hv11 hv12) (And.intro hv13 hn13)))) (And.intro (And.intro (And.intro (And.intro hv14 hn14) (And.intro hv15 hn15)) (And.intro (And.intro hv16 hn16) (And.intro hv17 hv18))) (And.intro (And.intro (And.intro hn18 hv19) (And.intro hn19 hv20)) (And.intro (And.intro hn20 hv21) (And.intro hv22 (And.intro hn22 hDf))))))
  have hq : QI n m k S now bu le mo T h ln vn D i := hp
  obtain ⟨d, a, hz, e1, e2, e3, e4, e5, e6, e7, e8, e9, e10, e11, e12, e13, e14⟩ := hp
  replace hz : LZ S now bu le mo T h ln vn D 1 d a [] := hz
  simp only [ewA, ewL, preC, binI, dvI, shI, cmpB, env, bi, List.headD, List.tail, List.map, Nat.reduceAdd] at e1 e2 e3 e4 e5 e6 e7 e8 e9 e10 e11 e12 e13 e14
  by_cases hi : i ≤ m
  · by_cases h1 : k = 1
    · have hi1 := e14 h1
      subst h1
      refine ⟨?_, ?_⟩
      · simp (disch := omega) only [ob_Q1, q_Q1_0, q_Q1_1, q_Q1_2, q_Q1_3, q_Q1_4, q_Q1_5, q_Q1_6, q_Q1_7, q_Q1_8, q_Q1_9, q_Q1_10, q_Q1_11, q_Q1_12, q_Q1_13, q_Q1_14, ewA, ewL, preC, binI, dvI, shI, cmpB, env, bi, List.headD, List.tail, List.map, Nat.reduceAdd, ewR, ewB, ewM, if_true, if_false, implies_true, forall_const, ne_eq, reduceCtorEq, Int.reduceEq, Int.reduceLT, Int.reduceLE, Int.reduceToNat, Int.reduceAdd, Int.reduceSub, Int.reduceMul, Int.reduceNeg, Int.reduceBEq, Nat.reduceLT, Nat.reduceEqDiff, hSS, hi]
      · simp (disch := omega) only [es_Q1, q_Q1_0, q_Q1_1, q_Q1_2, q_Q1_3, q_Q1_4, q_Q1_5, q_Q1_6, q_Q1_7, q_Q1_8, q_Q1_9, q_Q1_10, q_Q1_11, q_Q1_12, q_Q1_13, q_Q1_14, ewA, ewL, preC, binI, dvI, shI, cmpB, env, bi, List.headD, List.tail, List.map, Nat.reduceAdd, ewR, ewB, ewM, if_true, if_false, implies_true, forall_const, ne_eq, reduceCtorEq, Int.reduceEq, Int.reduceLT, Int.reduceLE, Int.reduceToNat, Int.reduceAdd, Int.reduceSub, Int.reduceMul, Int.reduceNeg, Int.reduceBEq, Nat.reduceLT, Nat.reduceEqDiff, hSS, hi]
        show QI n m 1 S now bu le mo T h ln vn D (if (1 : Int) = 1 then 1 else m + 1)
        rw [hi1] at hq
        rw [if_pos rfl]; exact hq
    · have wi : IntKind.i64.wrap (n + i) = n + i := i64w (by omega) (by omega)
      have wx : IntKind.i64.wrap (n + i + k) = n + i + k := i64w (by omega) (by omega)
      have w1 : IntKind.i64.wrap (i + 1) = i + 1 := i64w (by omega) (by omega)
      simp only [wi, wx] at hd12 hd13 hd14 hd15 hd16 hd17 hd18 hd19 hd20 hd21 hd22
      obtain ⟨d', a', z1, m2, m3, m5, m7, hc⟩ := hz.tick1 e6 (by omega) (by omega) (by omega) ⟨hd1, hd2, hd3, hd4, hd5, hd6, hd7, hd8, hd9, hd10, hd11, trivial⟩
      obtain ⟨_, z2, u1, u2, u3, u4, u5, u6⟩ := z1.touch (i := 0) (x := n + i + k) (by decide) (by omega) ⟨hd12, hd13, hd14, hd15, hd16, hd17, hd18, hd19, hd20, hd21, hd22, trivial⟩
      obtain ⟨w, hw⟩ : ∃ w, w = vn * (k - 1) := ⟨_, rfl⟩
      have hw1 : (vn + 1) * (k - 1) = w + (k - 1) := by rw [Int.add_mul, hw, Int.one_mul]
      rw [← hw] at e2
      have key : dc v11 = [] ∧ d' 0 = d 0 ∧ a' 0 = n + k + v9 * (k - 1) ∧ now + 1 < a' 0 ∧ a' 0 ≤ d 0 ∧ v9 ≤ vn + 1 := by
        obtain ⟨ad1, ad2, ad3⟩ := hz.ad 0 (by decide)
        rcases hc with ⟨c1, c2, c3, c4, c5⟩ | ⟨c1, c2, c3, c4, c5, c6⟩ | ⟨c1, c2, c3, c4, c5, c6⟩
        · refine ⟨c4, c2, ?_, by omega, by omega, by omega⟩
          rw [c5, ← hw]; omega
        · refine ⟨c5, c3, ?_, by omega, by omega, by omega⟩
          rw [c6, hw1]; omega
        · omega
      obtain ⟨k1, k2, k3, k4, k5, k6⟩ := key
      have hna : ¬ (a' 0 = 0 ∨ n + i + k < a' 0) := by omega
      have z2' : LZ v12 v13 v14 v15 v16 v17 v18 v19 v20 v21 1 (upD d' 0 (n + i + k)) (if a' 0 = 0 ∨ n + i + k < a' 0 then upD a' 0 (n + i + k) else a') [] := z2
      rw [if_neg hna] at z2'
      have kq : QI n m k v12 v13 v14 v15 v16 v17 v18 v19 v20 v21 (i + 1) := ⟨_, _, z2', by rw [upD_same]; omega, by rw [k3, u6], by omega, by omega, by omega, by omega, by omega, by omega, by omega, by omega, e11, e12, e13, fun h => absurd h h1⟩
      have yp : lbQ1.ent.pre [n, m, k, v12, v13, v14, v15, v16, v17, v18, v19, v20, v21, i + 1] := kq
      have ym : muQ1 [n, m, k, v12, v13, v14, v15, v16, v17, v18, v19, v20, v21, i + 1] < muQ1 [n, m, k, S, now, bu, le, mo, T, h, ln, vn, D, i] := by show (m + 1 - (i + 1)).toNat < (m + 1 - i).toNat; omega
      have i1 := hφ [n, m, k, v12, v13, v14, v15, v16, v17, v18, v19, v20, v21, i + 1] ⟨hn, hm, hk, rfl, hn13, hn14, hn15, hn16, rfl, hn18, hn19, hn20, rfl, w1, trivial⟩ yp ym
      have y14 : z14.pre [S, now, bu, le, mo, T, h, ln, vn, D] := hz.p14 (by omega) (by omega)
      have y13 : z13.pre [v1, v2, v3, v4, v5, v6, v7, v8, v9, v10, 0, n + i + k] := z1.p13 _ _
      have l0 : (dc v11).length = 0 := by rw [k1]; rfl
      subst u1
      refine ⟨?_, ?_⟩
      · simp (disch := omega) only [ob_Q1, q_Q1_0, q_Q1_1, q_Q1_2, q_Q1_3, q_Q1_4, q_Q1_5, q_Q1_6, q_Q1_7, q_Q1_8, q_Q1_9, q_Q1_10, q_Q1_11, q_Q1_12, q_Q1_13, q_Q1_14, ewA, ewL, preC, binI, dvI, shI, cmpB, env, bi, List.headD, List.tail, List.map, Nat.reduceAdd, ewR, ewB, ewM, if_true, if_false, implies_true, forall_const, ne_eq, reduceCtorEq, Int.reduceEq, Int.reduceLT, Int.reduceLE, Int.reduceToNat, Int.reduceAdd, Int.reduceSub, Int.reduceMul, Int.reduceNeg, Int.reduceBEq, Nat.reduceLT, Nat.reduceEqDiff, hSS, hi, h1, wi, wx, w1, l0, y14, y13]
        repeat' (first | (with_reducible apply And.intro) | (with_reducible intro _))
        all_goals first | with_reducible assumption | trivial | omega | (split <;> omega)
      · simp (disch := omega) only [es_Q1, q_Q1_0, q_Q1_1, q_Q1_2, q_Q1_3, q_Q1_4, q_Q1_5, q_Q1_6, q_Q1_7, q_Q1_8, q_Q1_9, q_Q1_10, q_Q1_11, q_Q1_12, q_Q1_13, q_Q1_14, ewA, ewL, preC, binI, dvI, shI, cmpB, env, bi, List.headD, List.tail, List.map, Nat.reduceAdd, ewR, ewB, ewM, if_true, if_false, implies_true, forall_const, ne_eq, reduceCtorEq, Int.reduceEq, Int.reduceLT, Int.reduceLE, Int.reduceToNat, Int.reduceAdd, Int.reduceSub, Int.reduceMul, Int.reduceNeg, Int.reduceBEq, Nat.reduceLT, Nat.reduceEqDiff, hSS, hi, h1, wi, wx, w1, l0]
        exact i1
  · have hi1 : i = m + 1 := by omega
    refine ⟨?_, ?_⟩
    · simp (disch := omega) only [ob_Q1, q_Q1_0, q_Q1_1, q_Q1_2, q_Q1_3, q_Q1_4, q_Q1_5, q_Q1_6, q_Q1_7, q_Q1_8, q_Q1_9, q_Q1_10, q_Q1_11, q_Q1_12, q_Q1_13, q_Q1_14, ewA, ewL, preC, binI, dvI, shI, cmpB, env, bi, List.headD, List.tail, List.map, Nat.reduceAdd, ewR, ewB, ewM, if_true, if_false, implies_true, forall_const, ne_eq, reduceCtorEq, Int.reduceEq, Int.reduceLT, Int.reduceLE, Int.reduceToNat, Int.reduceAdd, Int.reduceSub, Int.reduceMul, Int.reduceNeg, Int.reduceBEq, Nat.reduceLT, Nat.reduceEqDiff, hSS, hi]
    · simp (disch := omega) only [es_Q1, q_Q1_0, q_Q1_1, q_Q1_2, q_Q1_3, q_Q1_4, q_Q1_5, q_Q1_6, q_Q1_7, q_Q1_8, q_Q1_9, q_Q1_10, q_Q1_11, q_Q1_12, q_Q1_13, q_Q1_14, ewA, ewL, preC, binI, dvI, shI, cmpB, env, bi, List.headD, List.tail, List.map, Nat.reduceAdd, ewR, ewB, ewM, if_true, if_false, implies_true, forall_const, ne_eq, reduceCtorEq, Int.reduceEq, Int.reduceLT, Int.reduceLE, Int.reduceToNat, Int.reduceAdd, Int.reduceSub, Int.reduceMul, Int.reduceNeg, Int.reduceBEq, Nat.reduceLT, Nat.reduceEqDiff, hSS, hi]
      show QI n m k S now bu le mo T h ln vn D (if k = 1 then 1 else m + 1)
      by_cases h1 : k = 1
      · rw [if_pos h1, ← e14 h1]; exact hq
      · rw [if_neg h1, ← hi1]; exact hq

theorem okQ2 : ItemOK Try.prog G0 3 pQ2 leQ2 ∧ PostOK leQ2.ent postQ2 := by
  refine cQ1ok.nm.loopH mixed rfl ⟨_, _, _, Try.func3, rfl, rfl⟩ ev_Q2 (by kernel_rfl) _ rfl fun xs hf hp φ hφ => ?_
  obtain ⟨l, hl, hS, hF⟩ := self_H lbQ2 φ muQ2 (muQ2 xs) cQ1n.l (by decide)
  show ∃ ρ : Nat → Int, _ ∧ ob_Q2.tt (Tabs.F (enH lbQ2 φ muQ2 (muQ2 xs) :: cQ1n.l)) ρ = true ∧ postQ2 xs (es_Q2.map (E.den (Tabs.F (enH lbQ2 φ muQ2 (muQ2 xs) :: cQ1n.l)) ρ))
  rw [hl]
  replace hφ : ∀ ys, fits [(.i .i64), (.i .i64), .x, (.i .i64), (.i .i64), (.i .i64), (.i .i64), .x, (.i .i64), (.i .i64), (.i .i64), .x, (.i .i64)] ys → lbQ2.ent.pre ys → muQ2 ys < muQ2 xs → postQ2 ys (outsE φ ys 0 lbQ2.ent.oks) := hφ
  have F9103 := FC (k := 9103) rfl hS
  have F314 := FC (k := 100000314) rfl (hF z14.nm (by rfl) (by decide) (by decide))
  replace hf : fits [(.i .i64), (.i .i64), .x, (.i .i64), (.i .i64), (.i .i64), (.i .i64), .x, (.i .i64), (.i .i64), (.i .i64), .x, (.i .i64)] xs := hf
  obtain ⟨m, xs0, hx0, hm, hf0⟩ := fits_cons hf
  obtain ⟨k, xs1, hx1, hk, hf1⟩ := fits_cons hf0
  obtain ⟨S, xs2, hx2, hS, hf2⟩ := fits_cons hf1
  obtain ⟨now, xs3, hx3, hnow, hf3⟩ := fits_cons hf2
  obtain ⟨bu, xs4, hx4, hbu, hf4⟩ := fits_cons hf3
  obtain ⟨le, xs5, hx5, hle, hf5⟩ := fits_cons hf4
  obtain ⟨mo, xs6, hx6, hmo, hf6⟩ := fits_cons hf5
  obtain ⟨T, xs7, hx7, hT, hf7⟩ := fits_cons hf6
  obtain ⟨h, xs8, hx8, hh, hf8⟩ := fits_cons hf7
  obtain ⟨ln, xs9, hx9, hln, hf9⟩ := fits_cons hf8
  obtain ⟨vn, xs10, hx10, hvn, hf10⟩ := fits_cons hf9
  obtain ⟨D, xs11, hx11, hD, hf11⟩ := fits_cons hf10
  obtain ⟨i, xs12, hx12, hi, hf12⟩ := fits_cons hf11
  have hxn := fits_nil hf12
  subst hxn hx12 hx11 hx10 hx9 hx8 hx7 hx6 hx5 hx4 hx3 hx2 hx1 hx0
  simp only [norm_i] at hm hk hnow hbu hle hmo hh hln hvn hi
  obtain ⟨ρ, hρ, hd⟩ := solve (F := l.F) 13 defs_Q2 (by kernel_rfl) [m, k, S, now, bu, le, mo, T, h, ln, vn, D, i]
  have hDf := dE_tt (by kernel_rfl) hd
  refine ⟨ρ, hρ, ?_⟩
  have r0 : ρ 0 = m := hρ 0 (by decide)
  have r1 : ρ 1 = k := hρ 1 (by decide)
  have r2 : ρ 2 = S := hρ 2 (by decide)
  have r3 : ρ 3 = now := hρ 3 (by decide)
  have r4 : ρ 4 = bu := hρ 4 (by decide)
  have r5 : ρ 5 = le := hρ 5 (by decide)
  have r6 : ρ 6 = mo := hρ 6 (by decide)
  have r7 : ρ 7 = T := hρ 7 (by decide)
  have r8 : ρ 8 = h := hρ 8 (by decide)
  have r9 : ρ 9 = ln := hρ 9 (by decide)
  have r10 : ρ 10 = vn := hρ 10 (by decide)
  have r11 : ρ 11 = D := hρ 11 (by decide)
  have r12 : ρ 12 = i := hρ 12 (by decide)
  obtain ⟨v1, hv1, hd1, hn1⟩ := nmd hd 0 rfl
  obtain ⟨v2, hv2, hd2, hn2⟩ := nmd hd 1 rfl
  obtain ⟨v3, hv3, hd3, hn3⟩ := nmd hd 2 rfl
  obtain ⟨v4, hv4, hd4, hn4⟩ := nmd hd 3 rfl
  obtain ⟨v5, hv5, hd5, hn5⟩ := nmd hd 4 rfl
  obtain ⟨v6, hv6, hd6, hn6⟩ := nmd hd 5 rfl
  obtain ⟨v7, hv7, hd7, hn7⟩ := nmd hd 6 rfl
  obtain ⟨v8, hv8, hd8, hn8⟩ := nmd hd 7 rfl
  obtain ⟨v9, hv9, hd9, hn9⟩ := nmd hd 8 rfl
  obtain ⟨v10, hv10, hd10, hn10⟩ := nmd hd 9 rfl
  obtain ⟨v11, hv11, hd11, hn11⟩ := nmd hd 10 rfl
  simp only [norm_i] at hn2 hn3 hn4 hn5 hn7 hn8 hn9
  simp (disch := omega) only [norm_i, a_Q2_0, F314, Ent.nm_fn, r0, hm, r1, hk, r2, r3, hnow, r4, hbu, r5, hle, r6, hmo, r7, r8, hh, r9, hln, r10, hvn, r11, r12, hi, hv1, hv2, hn2, hv3, hn3, hv4, hn4, hv5, hn5, hv6, hv7, hn7, hv8, hn8, hv9, hn9, hv10, hv11, ewA, ewL, preC, binI, dvI, shI, cmpB, env, bi, List.headD, List.tail, List.map, Nat.reduceAdd, ewR, ewB, ewM, if_true, if_false, implies_true, forall_const, ne_eq, reduceCtorEq, Int.reduceEq, Int.reduceLT, Int.reduceLE, Int.reduceToNat, Int.reduceAdd, Int.reduceSub, Int.reduceMul, Int.reduceNeg, Int.reduceBEq, Nat.reduceLT, Nat.reduceEqDiff] at hd1 hd2 hd3 hd4 hd5 hd6 hd7 hd8 hd9 hd10 hd11
  have hSS := And.intro (And.intro (And.intro (And.intro (And.intro F9103 F314) (And.intro r0 (And.intro hm r1))) (And.intro (And.intro hk (And.intro r2 r3)) (And.intro hnow (And.intro r4 hbu)))) (And.intro (And.intro (And.intro r5 hle) (And.intro r6 (And.intro hmo r7))) (And.intro (And.intro r8 (And.intro hh r9)) (And.intro hln (And.intro r10 hvn))))) (And.intro (And.intro (And.intro (And.intro r11 r12) (And.intro hi (And.intro hv1 hv2))) (And.intro (And.intro hn2 (And.intro hv3 hn3)) (And.intro hv4 (And.intro hn4 hv5)))) (And.intro (And.intro (And.intro hn5 hv6) (And.intro hv7 (And.intro hn7 hv8))) (And.intro (And.intro hn8 (And.intro hv9 hn9)) (And.intro hv10 (And.intro hv11 hDf)))))
  have hq : QE m k S now bu le mo T h ln vn D i := hp
  obtain ⟨d, a, hz, e1, e5, e6, e7, e8, e9, e10, e11, e13, e14⟩ := hp
  replace hz : LZ S now bu le mo T h ln vn D 1 d a [] := hz
  simp only [ewA, ewL, preC, binI, dvI, shI, cmpB, env, bi, List.headD, List.tail, List.map, Nat.reduceAdd] at e1 e5 e6 e7 e8 e9 e10 e11 e13 e14
  have wf : IntKind.i64.wrap (m + k) = m + k := i64w (by omega) (by omega)
  by_cases hi : i ≤ m + k
  · have w1 : IntKind.i64.wrap (i + 1) = i + 1 := i64w (by omega) (by omega)
    obtain ⟨d', a', z1, m2, m3, m5, m7, hc⟩ := hz.tick1 e6 (by omega) (by omega) (by omega) ⟨hd1, hd2, hd3, hd4, hd5, hd6, hd7, hd8, hd9, hd10, hd11, trivial⟩
    obtain ⟨f1, f2, f3⟩ : d 0 - now = m + k + 1 - i ∧ now < a 0 ∧ (a 0 = d 0 ∧ QV m k vn ∨ a 0 < d 0 ∧ QV m k (vn + 1)) := by
      rcases e1 with h | h
      · exact h
      · omega
    have key : (((dc v11).length : Int) = if i = m + k then 1 else 0) ∧ QE m k v1 v2 v3 v4 v5 v6 v7 v8 v9 v10 (i + 1) := by
      rcases hc with ⟨c1, c2, c3, c4, c5⟩ | ⟨c1, c2, c3, c4, c5, c6⟩ | ⟨c1, c2, c3, c4, c5, c6⟩
      · obtain ⟨ad1, ad2, ad3⟩ := hz.ad 0 (by decide)
        refine ⟨by rw [c4, if_neg (by omega)]; rfl, d', a', z1, Or.inl ⟨by omega, by omega, ?_⟩, by omega, by omega, by omega, by omega, by omega, by omega, e11, e13, by omega⟩
        rw [c2, c3, c5]; exact f3
      · refine ⟨by rw [c5, if_neg (by omega)]; rfl, d', a', z1, Or.inl ⟨by omega, by omega, Or.inl ⟨by omega, ?_⟩⟩, by omega, by omega, by omega, by omega, by omega, by omega, e11, e13, by omega⟩
        rw [c6]
        rcases f3 with h | h
        · omega
        · exact h.2
      · refine ⟨by rw [c5, if_pos (by omega)]; rfl, d', a', z1, Or.inr ⟨by omega, c3, ?_⟩, by omega, by omega, by omega, by omega, by omega, by omega, e11, e13, by omega⟩
        rw [c6]
        rcases f3 with h | h
        · exact h.2
        · omega
    obtain ⟨k1, k2⟩ := key
    have yp : lbQ2.ent.pre [m, k, v1, v2, v3, v4, v5, v6, v7, v8, v9, v10, i + 1] := k2
    have ym : muQ2 [m, k, v1, v2, v3, v4, v5, v6, v7, v8, v9, v10, i + 1] < muQ2 [m, k, S, now, bu, le, mo, T, h, ln, vn, D, i] := by show (m + k + 1 - (i + 1)).toNat < (m + k + 1 - i).toNat; omega
    have i1 := hφ [m, k, v1, v2, v3, v4, v5, v6, v7, v8, v9, v10, i + 1] ⟨hm, hk, rfl, hn2, hn3, hn4, hn5, rfl, hn7, hn8, hn9, rfl, w1, trivial⟩ yp ym
    have y14 : z14.pre [S, now, bu, le, mo, T, h, ln, vn, D] := hz.p14 (by omega) (by omega)
    have kb : b2i (((dc v11).length : Int) == 1) = b2i (i == m + k) := by
      by_cases hh : i = m + k
      · rw [k1, if_pos hh]; simp [hh]
      · rw [k1, if_neg hh, show (i == m + k) = false from beq_eq_false_iff_ne.2 hh]; rfl
    have wl : IntKind.i64.wrap (((dc v11).length : Nat) : Int) = (((dc v11).length : Nat) : Int) := by
      rw [k1]; split <;> rfl
    refine ⟨?_, ?_⟩
    · simp (disch := omega) only [ob_Q2, q_Q2_0, q_Q2_1, q_Q2_2, q_Q2_3, ewA, ewL, preC, binI, dvI, shI, cmpB, env, bi, List.headD, List.tail, List.map, Nat.reduceAdd, ewR, ewB, ewM, if_true, if_false, implies_true, forall_const, ne_eq, reduceCtorEq, Int.reduceEq, Int.reduceLT, Int.reduceLE, Int.reduceToNat, Int.reduceAdd, Int.reduceSub, Int.reduceMul, Int.reduceNeg, Int.reduceBEq, Nat.reduceLT, Nat.reduceEqDiff, hSS, hi, wf, w1, wl, kb, y14]
      exact ⟨yp, ym⟩
    · simp (disch := omega) only [es_Q2, q_Q2_0, q_Q2_1, q_Q2_2, q_Q2_3, ewA, ewL, preC, binI, dvI, shI, cmpB, env, bi, List.headD, List.tail, List.map, Nat.reduceAdd, ewR, ewB, ewM, if_true, if_false, implies_true, forall_const, ne_eq, reduceCtorEq, Int.reduceEq, Int.reduceLT, Int.reduceLE, Int.reduceToNat, Int.reduceAdd, Int.reduceSub, Int.reduceMul, Int.reduceNeg, Int.reduceBEq, Nat.reduceLT, Nat.reduceEqDiff, hSS, hi, wf, w1, wl, kb]
      exact ⟨i1.1, i1.2.trans (by show v2 + (m + k + 1 - (i + 1)) = now + (m + k + 1 - i); omega)⟩
  · have hi1 : i = m + k + 1 := by omega
    refine ⟨?_, ?_⟩
    · simp (disch := omega) only [ob_Q2, q_Q2_0, q_Q2_1, q_Q2_2, q_Q2_3, ewA, ewL, preC, binI, dvI, shI, cmpB, env, bi, List.headD, List.tail, List.map, Nat.reduceAdd, ewR, ewB, ewM, if_true, if_false, implies_true, forall_const, ne_eq, reduceCtorEq, Int.reduceEq, Int.reduceLT, Int.reduceLE, Int.reduceToNat, Int.reduceAdd, Int.reduceSub, Int.reduceMul, Int.reduceNeg, Int.reduceBEq, Nat.reduceLT, Nat.reduceEqDiff, hSS, hi, wf]
    · simp (disch := omega) only [es_Q2, q_Q2_0, q_Q2_1, q_Q2_2, q_Q2_3, ewA, ewL, preC, binI, dvI, shI, cmpB, env, bi, List.headD, List.tail, List.map, Nat.reduceAdd, ewR, ewB, ewM, if_true, if_false, implies_true, forall_const, ne_eq, reduceCtorEq, Int.reduceEq, Int.reduceLT, Int.reduceLE, Int.reduceToNat, Int.reduceAdd, Int.reduceSub, Int.reduceMul, Int.reduceNeg, Int.reduceBEq, Nat.reduceLT, Nat.reduceEqDiff, hSS, hi, wf]
      rw [hi1] at hq
      refine ⟨hq, ?_⟩
      show now = now + (m + k + 1 - i)
      omega

end
end Go.Proofs.Ytnockichpnaoeaa.Ew
