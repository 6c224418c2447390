/- Layer 18: WheelCheap. -/
import Derived.Test.YtfhheeoejncfgaaHo
set_option linter.unusedVariables false
set_option linter.unusedSimpArgs false
namespace Go.Proofs.Ytfhheeoejncfgaa.Ew
open Go Go.RowKit
noncomputable section
--P Try.prog G0

def bx : Sh := .obj 3 [i64]
def bxO (j : Nat) : Ob := { j := j, ty := 3, cs := [i64] }
def cfS : Sh := .fnc 27 [bx]
/-- The moves that were and those that may come are at most three for each timer that was armed. -/
def CH (S now bu le mo T c ar : Int) : Prop := WE S now bu le mo T c ∧ NN (dc T) ∧ mo + lvSum (dc T) c.toNat ≤ 3 * ar ∧ 0 ≤ ar ∧ ar ≤ 1000000
def chE (xs : List Int) (c ar : Int) : Prop := CH (env xs 0) (env xs 1) (env xs 2) (env xs 3) (env xs 4) (env xs 5) c ar
def preAc (xs : List Int) : Prop := chE xs (env xs 6) (env xs 7) ∧ (0 ≤ env xs 8 ∧ env xs 8 < env xs 6) ∧ (0 ≤ env xs 9 ∧ env xs 9 ≤ 7) ∧ (0 ≤ env xs 10 ∧ env xs 10 < 2147483648 ∧ (env xs 10 ≤ 3000 ∨ env xs 11 ≤ 1)) ∧ 0 ≤ env xs 12 ∧ env xs 12 ≤ env xs 11 ∧ env xs 11 ≤ 20 ∧ env xs 7 + (env xs 11 - env xs 12) ≤ 1000000
def postAc (xs ys : List Int) : Prop := chE ys (env xs 6) (env ys 6) ∧ env ys 2 = env xs 2 ∧ env ys 4 = env xs 4 ∧ (env xs 7 ≤ env ys 6 ∧ env ys 6 ≤ env xs 7 + (env xs 11 - env xs 12))
def pre26c (xs : List Int) : Prop := chE xs (env xs 6) (env xs 11) ∧ env xs 11 + 20 ≤ 1000000
def post26c (xs ys : List Int) : Prop := chE ys (env xs 6) (env ys 6) ∧ env ys 2 = env xs 2 ∧ env ys 4 = env xs 4 ∧ (env xs 11 ≤ env ys 6 ∧ env ys 6 ≤ env xs 11 + 20)
def preCt (xs : List Int) : Prop := (∃ c ar, chE xs c ar) ∧ env xs 6 = env xs 2 ∧ env xs 7 = env xs 4 ∧ 0 ≤ env xs 9 ∧ env xs 9 ≤ env xs 8 ∧ env xs 8 ≤ 300
def postCt (xs ys : List Int) : Prop := (∀ c ar, chE xs c ar → chE ys c ar) ∧ env ys 2 = env xs 2 ∧ env ys 6 = env ys 4
def preCo (xs : List Int) : Prop := chE xs (env xs 6) (env xs 8) ∧ env xs 7 = env xs 2 ∧ env xs 9 = env xs 4 ∧ actOK xs 10 ∧ env xs 11 = ((dc (env xs 10)).length : Int) ∧ env xs 8 + 20 * (env xs 11 - env xs 12) ≤ 1000000 ∧ 0 ≤ env xs 12 ∧ env xs 12 ≤ env xs 11 ∧ env xs 11 ≤ 30
def postCo (xs ys : List Int) : Prop := chE ys (env xs 6) (env ys 6) ∧ env ys 7 = env ys 4
def muAc (xs : List Int) : Nat := (env xs 11 - env xs 12).toNat
def lbAc : LEnt := ⟨⟨9126, 999999, [wsh, i64, cfS, i64, i64, i64, i64, i64], [wob, bxO 2], [], .tup [], z0, preAc⟩, [0, 1, 3, 9, 11, 12, 36, 37], [], [13, 14, 15] ++ (List.range 27).map (· + 37), [.ex 0], 64, []⟩

def defs_LAc : List (Nat × E) := [(640000115207360, (.app (.i .i64) 100000018 0 [(.var .x 0), (.var (.i .i64) 1), (.var (.i .i64) 2), (.var (.i .i64) 3), (.var (.i .i64) 4), (.var .x 5)])),
  (640000089612480, (.app .x 100000014 0 [(.var .x 0), (.var (.i .i64) 1), (.var (.i .i64) 2), (.var (.i .i64) 3), (.var (.i .i64) 4), (.var .x 5), (.app (.i .i64) 0 21 [(.bin .add .i64 (.var (.i .i64) 8) (.var (.i .i64) 12)), (.var (.i .i64) 6)]), (.bin .add .i64 (.bin .add .i64 (.bin .add .i64 (.var (.i .i64) 640000115207360) (.lit (.i .i64) 1)) (.var (.i .i64) 10)) (.bin .mul .i64 (.var (.i .i64) 12) (.var (.i .i64) 9)))])),
  (640000089612481, (.app (.i .i64) 100000014 1 [(.var .x 0), (.var (.i .i64) 1), (.var (.i .i64) 2), (.var (.i .i64) 3), (.var (.i .i64) 4), (.var .x 5), (.app (.i .i64) 0 21 [(.bin .add .i64 (.var (.i .i64) 8) (.var (.i .i64) 12)), (.var (.i .i64) 6)]), (.bin .add .i64 (.bin .add .i64 (.bin .add .i64 (.var (.i .i64) 640000115207360) (.lit (.i .i64) 1)) (.var (.i .i64) 10)) (.bin .mul .i64 (.var (.i .i64) 12) (.var (.i .i64) 9)))])),
  (640000089612482, (.app (.i .i64) 100000014 2 [(.var .x 0), (.var (.i .i64) 1), (.var (.i .i64) 2), (.var (.i .i64) 3), (.var (.i .i64) 4), (.var .x 5), (.app (.i .i64) 0 21 [(.bin .add .i64 (.var (.i .i64) 8) (.var (.i .i64) 12)), (.var (.i .i64) 6)]), (.bin .add .i64 (.bin .add .i64 (.bin .add .i64 (.var (.i .i64) 640000115207360) (.lit (.i .i64) 1)) (.var (.i .i64) 10)) (.bin .mul .i64 (.var (.i .i64) 12) (.var (.i .i64) 9)))])),
  (640000089612483, (.app (.i .i64) 100000014 3 [(.var .x 0), (.var (.i .i64) 1), (.var (.i .i64) 2), (.var (.i .i64) 3), (.var (.i .i64) 4), (.var .x 5), (.app (.i .i64) 0 21 [(.bin .add .i64 (.var (.i .i64) 8) (.var (.i .i64) 12)), (.var (.i .i64) 6)]), (.bin .add .i64 (.bin .add .i64 (.bin .add .i64 (.var (.i .i64) 640000115207360) (.lit (.i .i64) 1)) (.var (.i .i64) 10)) (.bin .mul .i64 (.var (.i .i64) 12) (.var (.i .i64) 9)))])),
  (640000089612484, (.app (.i .i64) 100000014 4 [(.var .x 0), (.var (.i .i64) 1), (.var (.i .i64) 2), (.var (.i .i64) 3), (.var (.i .i64) 4), (.var .x 5), (.app (.i .i64) 0 21 [(.bin .add .i64 (.var (.i .i64) 8) (.var (.i .i64) 12)), (.var (.i .i64) 6)]), (.bin .add .i64 (.bin .add .i64 (.bin .add .i64 (.var (.i .i64) 640000115207360) (.lit (.i .i64) 1)) (.var (.i .i64) 10)) (.bin .mul .i64 (.var (.i .i64) 12) (.var (.i .i64) 9)))])),
  (640000089612485, (.app .x 100000014 5 [(.var .x 0), (.var (.i .i64) 1), (.var (.i .i64) 2), (.var (.i .i64) 3), (.var (.i .i64) 4), (.var .x 5), (.app (.i .i64) 0 21 [(.bin .add .i64 (.var (.i .i64) 8) (.var (.i .i64) 12)), (.var (.i .i64) 6)]), (.bin .add .i64 (.bin .add .i64 (.bin .add .i64 (.var (.i .i64) 640000115207360) (.lit (.i .i64) 1)) (.var (.i .i64) 10)) (.bin .mul .i64 (.var (.i .i64) 12) (.var (.i .i64) 9)))])),
  (640000089612486, (.app (.i .i64) 100000014 6 [(.var .x 0), (.var (.i .i64) 1), (.var (.i .i64) 2), (.var (.i .i64) 3), (.var (.i .i64) 4), (.var .x 5), (.app (.i .i64) 0 21 [(.bin .add .i64 (.var (.i .i64) 8) (.var (.i .i64) 12)), (.var (.i .i64) 6)]), (.bin .add .i64 (.bin .add .i64 (.bin .add .i64 (.var (.i .i64) 640000115207360) (.lit (.i .i64) 1)) (.var (.i .i64) 10)) (.bin .mul .i64 (.var (.i .i64) 12) (.var (.i .i64) 9)))]))]
def q_LAc_0 : E := (.and (.cmp .lss (.var (.i .i64) 12) (.var (.i .i64) 11)) (.not (.cmp .neq (.var (.i .i64) 640000089612486) (.lit (.i .i64) 0))))
def ob_LAc : E := (.and (.and (.or (.not (.cmp .lss (.var (.i .i64) 12) (.var (.i .i64) 11))) (.and (.and (.cmp .neq (.var (.i .i64) 6) (.lit (.i .i64) 0)) (.and (.app .b 100000018 1000000 [(.var .x 0), (.var (.i .i64) 1), (.var (.i .i64) 2), (.var (.i .i64) 3), (.var (.i .i64) 4), (.var .x 5)]) (dE defs_LAc 0 1))) (.and (.app .b 100000014 1000000 [(.var .x 0), (.var (.i .i64) 1), (.var (.i .i64) 2), (.var (.i .i64) 3), (.var (.i .i64) 4), (.var .x 5), (.app (.i .i64) 0 21 [(.bin .add .i64 (.var (.i .i64) 8) (.var (.i .i64) 12)), (.var (.i .i64) 6)]), (.bin .add .i64 (.bin .add .i64 (.bin .add .i64 (.var (.i .i64) 640000115207360) (.lit (.i .i64) 1)) (.var (.i .i64) 10)) (.bin .mul .i64 (.var (.i .i64) 12) (.var (.i .i64) 9)))]) (dE defs_LAc 1 7)))) (.or (.not q_LAc_0) (.app .b 9126 1000000 [(.var .x 640000089612480), (.var (.i .i64) 640000089612481), (.var (.i .i64) 640000089612482), (.var (.i .i64) 640000089612483), (.var (.i .i64) 640000089612484), (.var .x 640000089612485), (.var (.i .i64) 6), (.bin .add .i64 (.var (.i .i64) 7) (.lit (.i .i64) 1)), (.var (.i .i64) 8), (.var (.i .i64) 9), (.var (.i .i64) 10), (.var (.i .i64) 11), (.bin .add .i64 (.var (.i .i64) 12) (.lit (.i .i64) 1))]))) (.and (.or (.not (.or (.not (.cmp .lss (.var (.i .i64) 12) (.var (.i .i64) 11))) q_LAc_0)) (.ite (.not (.cmp .lss (.var (.i .i64) 12) (.var (.i .i64) 11))) (.not (.cmp .lss (.var (.i .i64) 12) (.var (.i .i64) 11))) (.cmp .lss (.var (.i .i64) 12) (.var (.i .i64) 11)))) (.not (.and (.cmp .lss (.var (.i .i64) 12) (.var (.i .i64) 11)) (.cmp .neq (.var (.i .i64) 640000089612486) (.lit (.i .i64) 0))))))
def es_LAc : List E := [(.ite (.not (.cmp .lss (.var (.i .i64) 12) (.var (.i .i64) 11))) (.var .x 0) (.app .x 9126 0 [(.var .x 640000089612480), (.var (.i .i64) 640000089612481), (.var (.i .i64) 640000089612482), (.var (.i .i64) 640000089612483), (.var (.i .i64) 640000089612484), (.var .x 640000089612485), (.var (.i .i64) 6), (.bin .add .i64 (.var (.i .i64) 7) (.lit (.i .i64) 1)), (.var (.i .i64) 8), (.var (.i .i64) 9), (.var (.i .i64) 10), (.var (.i .i64) 11), (.bin .add .i64 (.var (.i .i64) 12) (.lit (.i .i64) 1))])), (.ite (.not (.cmp .lss (.var (.i .i64) 12) (.var (.i .i64) 11))) (.var (.i .i64) 1) (.app (.i .i64) 9126 1 [(.var .x 640000089612480), (.var (.i .i64) 640000089612481), (.var (.i .i64) 640000089612482), (.var (.i .i64) 640000089612483), (.var (.i .i64) 640000089612484), (.var .x 640000089612485), (.var (.i .i64) 6), (.bin .add .i64 (.var (.i .i64) 7) (.lit (.i .i64) 1)), (.var (.i .i64) 8), (.var (.i .i64) 9), (.var (.i .i64) 10), (.var (.i .i64) 11), (.bin .add .i64 (.var (.i .i64) 12) (.lit (.i .i64) 1))])), (.ite (.not (.cmp .lss (.var (.i .i64) 12) (.var (.i .i64) 11))) (.var (.i .i64) 2) (.app (.i .i64) 9126 2 [(.var .x 640000089612480), (.var (.i .i64) 640000089612481), (.var (.i .i64) 640000089612482), (.var (.i .i64) 640000089612483), (.var (.i .i64) 640000089612484), (.var .x 640000089612485), (.var (.i .i64) 6), (.bin .add .i64 (.var (.i .i64) 7) (.lit (.i .i64) 1)), (.var (.i .i64) 8), (.var (.i .i64) 9), (.var (.i .i64) 10), (.var (.i .i64) 11), (.bin .add .i64 (.var (.i .i64) 12) (.lit (.i .i64) 1))])), (.ite (.not (.cmp .lss (.var (.i .i64) 12) (.var (.i .i64) 11))) (.var (.i .i64) 3) (.app (.i .i64) 9126 3 [(.var .x 640000089612480), (.var (.i .i64) 640000089612481), (.var (.i .i64) 640000089612482), (.var (.i .i64) 640000089612483), (.var (.i .i64) 640000089612484), (.var .x 640000089612485), (.var (.i .i64) 6), (.bin .add .i64 (.var (.i .i64) 7) (.lit (.i .i64) 1)), (.var (.i .i64) 8), (.var (.i .i64) 9), (.var (.i .i64) 10), (.var (.i .i64) 11), (.bin .add .i64 (.var (.i .i64) 12) (.lit (.i .i64) 1))])), (.ite (.not (.cmp .lss (.var (.i .i64) 12) (.var (.i .i64) 11))) (.var (.i .i64) 4) (.app (.i .i64) 9126 4 [(.var .x 640000089612480), (.var (.i .i64) 640000089612481), (.var (.i .i64) 640000089612482), (.var (.i .i64) 640000089612483), (.var (.i .i64) 640000089612484), (.var .x 640000089612485), (.var (.i .i64) 6), (.bin .add .i64 (.var (.i .i64) 7) (.lit (.i .i64) 1)), (.var (.i .i64) 8), (.var (.i .i64) 9), (.var (.i .i64) 10), (.var (.i .i64) 11), (.bin .add .i64 (.var (.i .i64) 12) (.lit (.i .i64) 1))])), (.ite (.not (.cmp .lss (.var (.i .i64) 12) (.var (.i .i64) 11))) (.var .x 5) (.app .x 9126 5 [(.var .x 640000089612480), (.var (.i .i64) 640000089612481), (.var (.i .i64) 640000089612482), (.var (.i .i64) 640000089612483), (.var (.i .i64) 640000089612484), (.var .x 640000089612485), (.var (.i .i64) 6), (.bin .add .i64 (.var (.i .i64) 7) (.lit (.i .i64) 1)), (.var (.i .i64) 8), (.var (.i .i64) 9), (.var (.i .i64) 10), (.var (.i .i64) 11), (.bin .add .i64 (.var (.i .i64) 12) (.lit (.i .i64) 1))])), (.ite (.not (.cmp .lss (.var (.i .i64) 12) (.var (.i .i64) 11))) (.var (.i .i64) 7) (.app (.i .i64) 9126 6 [(.var .x 640000089612480), (.var (.i .i64) 640000089612481), (.var (.i .i64) 640000089612482), (.var (.i .i64) 640000089612483), (.var (.i .i64) 640000089612484), (.var .x 640000089612485), (.var (.i .i64) 6), (.bin .add .i64 (.var (.i .i64) 7) (.lit (.i .i64) 1)), (.var (.i .i64) 8), (.var (.i .i64) 9), (.var (.i .i64) 10), (.var (.i .i64) 11), (.bin .add .i64 (.var (.i .i64) 12) (.lit (.i .i64) 1))]))]
def leAc : LEnt := lbAc.fw (fnL lbAc cOn.l ob_LAc es_LAc postAc muAc)
theorem ev_LAc : evL Try.prog G0 (tabOf cOn.fs) (evFn Try.prog G0 (tabOf cOn.fs) (ltOf cOn.ls) 40 10) 40 (subL cOn.ls 26 pAr) leAc (bodyAt Try.prog 26 pAr) = some (ob_LAc, es_LAc) := by kernel_rfl

def b26c : Ent := ⟨1026, 26, [wsh, i64, actS, cfS], [wob, bxO 2], [], .lt .b 1, z0, pre26c⟩
def cPc : Ctx := ⟨[e18, e25], [(26, pAr, leAc)]⟩
def cPcn : Ctx := cPc.nm

def defs_26c : List (Nat × E) := [(640000160002240, (.app (.i .i64) 100000025 0 [(.var (.i .i64) 8), (.var (.i .i64) 6)])),
  (640000160003776, (.app (.i .i64) 100000025 0 [(.var (.i .i64) 10), (.lit (.i .i64) 20)])),
  (640000160007872, (.app (.i .i64) 100000025 0 [(.var (.i .i64) 9), (.lit (.i .i64) 3000)])),
  (640000160010432, (.app (.i .i64) 100000025 0 [(.var (.i .i64) 9), (.lit (.i .i64) 2147483648)])),
  (640058406410432, (.app .x 100009126 0 [(.var .x 0), (.var (.i .i64) 1), (.var (.i .i64) 2), (.var (.i .i64) 3), (.var (.i .i64) 4), (.var .x 5), (.var (.i .i64) 6), (.var (.i .i64) 11), (.var (.i .i64) 640000160002240), (.conv .i64 (.dv .rem .u8 (.var (.i .u8) 7) 8)), (.ite (.cmp .eql (.conv .i64 (.dv .rem .u8 (.var (.i .u8) 7) 8)) (.lit (.i .i64) 3)) (.var (.i .i64) 640000160010432) (.var (.i .i64) 640000160007872)), (.bin .add .i64 (.lit (.i .i64) 1) (.ite (.cmp .eql (.conv .i64 (.dv .rem .u8 (.var (.i .u8) 7) 8)) (.lit (.i .i64) 3)) (.lit (.i .i64) 0) (.var (.i .i64) 640000160003776))), (.lit (.i .i64) 0)])),
  (640058406410433, (.app (.i .i64) 100009126 1 [(.var .x 0), (.var (.i .i64) 1), (.var (.i .i64) 2), (.var (.i .i64) 3), (.var (.i .i64) 4), (.var .x 5), (.var (.i .i64) 6), (.var (.i .i64) 11), (.var (.i .i64) 640000160002240), (.conv .i64 (.dv .rem .u8 (.var (.i .u8) 7) 8)), (.ite (.cmp .eql (.conv .i64 (.dv .rem .u8 (.var (.i .u8) 7) 8)) (.lit (.i .i64) 3)) (.var (.i .i64) 640000160010432) (.var (.i .i64) 640000160007872)), (.bin .add .i64 (.lit (.i .i64) 1) (.ite (.cmp .eql (.conv .i64 (.dv .rem .u8 (.var (.i .u8) 7) 8)) (.lit (.i .i64) 3)) (.lit (.i .i64) 0) (.var (.i .i64) 640000160003776))), (.lit (.i .i64) 0)])),
  (640058406410434, (.app (.i .i64) 100009126 2 [(.var .x 0), (.var (.i .i64) 1), (.var (.i .i64) 2), (.var (.i .i64) 3), (.var (.i .i64) 4), (.var .x 5), (.var (.i .i64) 6), (.var (.i .i64) 11), (.var (.i .i64) 640000160002240), (.conv .i64 (.dv .rem .u8 (.var (.i .u8) 7) 8)), (.ite (.cmp .eql (.conv .i64 (.dv .rem .u8 (.var (.i .u8) 7) 8)) (.lit (.i .i64) 3)) (.var (.i .i64) 640000160010432) (.var (.i .i64) 640000160007872)), (.bin .add .i64 (.lit (.i .i64) 1) (.ite (.cmp .eql (.conv .i64 (.dv .rem .u8 (.var (.i .u8) 7) 8)) (.lit (.i .i64) 3)) (.lit (.i .i64) 0) (.var (.i .i64) 640000160003776))), (.lit (.i .i64) 0)])),
  (640058406410435, (.app (.i .i64) 100009126 3 [(.var .x 0), (.var (.i .i64) 1), (.var (.i .i64) 2), (.var (.i .i64) 3), (.var (.i .i64) 4), (.var .x 5), (.var (.i .i64) 6), (.var (.i .i64) 11), (.var (.i .i64) 640000160002240), (.conv .i64 (.dv .rem .u8 (.var (.i .u8) 7) 8)), (.ite (.cmp .eql (.conv .i64 (.dv .rem .u8 (.var (.i .u8) 7) 8)) (.lit (.i .i64) 3)) (.var (.i .i64) 640000160010432) (.var (.i .i64) 640000160007872)), (.bin .add .i64 (.lit (.i .i64) 1) (.ite (.cmp .eql (.conv .i64 (.dv .rem .u8 (.var (.i .u8) 7) 8)) (.lit (.i .i64) 3)) (.lit (.i .i64) 0) (.var (.i .i64) 640000160003776))), (.lit (.i .i64) 0)])),
  (640058406410436, (.app (.i .i64) 100009126 4 [(.var .x 0), (.var (.i .i64) 1), (.var (.i .i64) 2), (.var (.i .i64) 3), (.var (.i .i64) 4), (.var .x 5), (.var (.i .i64) 6), (.var (.i .i64) 11), (.var (.i .i64) 640000160002240), (.conv .i64 (.dv .rem .u8 (.var (.i .u8) 7) 8)), (.ite (.cmp .eql (.conv .i64 (.dv .rem .u8 (.var (.i .u8) 7) 8)) (.lit (.i .i64) 3)) (.var (.i .i64) 640000160010432) (.var (.i .i64) 640000160007872)), (.bin .add .i64 (.lit (.i .i64) 1) (.ite (.cmp .eql (.conv .i64 (.dv .rem .u8 (.var (.i .u8) 7) 8)) (.lit (.i .i64) 3)) (.lit (.i .i64) 0) (.var (.i .i64) 640000160003776))), (.lit (.i .i64) 0)])),
  (640058406410437, (.app .x 100009126 5 [(.var .x 0), (.var (.i .i64) 1), (.var (.i .i64) 2), (.var (.i .i64) 3), (.var (.i .i64) 4), (.var .x 5), (.var (.i .i64) 6), (.var (.i .i64) 11), (.var (.i .i64) 640000160002240), (.conv .i64 (.dv .rem .u8 (.var (.i .u8) 7) 8)), (.ite (.cmp .eql (.conv .i64 (.dv .rem .u8 (.var (.i .u8) 7) 8)) (.lit (.i .i64) 3)) (.var (.i .i64) 640000160010432) (.var (.i .i64) 640000160007872)), (.bin .add .i64 (.lit (.i .i64) 1) (.ite (.cmp .eql (.conv .i64 (.dv .rem .u8 (.var (.i .u8) 7) 8)) (.lit (.i .i64) 3)) (.lit (.i .i64) 0) (.var (.i .i64) 640000160003776))), (.lit (.i .i64) 0)])),
  (640058406410438, (.app (.i .i64) 100009126 6 [(.var .x 0), (.var (.i .i64) 1), (.var (.i .i64) 2), (.var (.i .i64) 3), (.var (.i .i64) 4), (.var .x 5), (.var (.i .i64) 6), (.var (.i .i64) 11), (.var (.i .i64) 640000160002240), (.conv .i64 (.dv .rem .u8 (.var (.i .u8) 7) 8)), (.ite (.cmp .eql (.conv .i64 (.dv .rem .u8 (.var (.i .u8) 7) 8)) (.lit (.i .i64) 3)) (.var (.i .i64) 640000160010432) (.var (.i .i64) 640000160007872)), (.bin .add .i64 (.lit (.i .i64) 1) (.ite (.cmp .eql (.conv .i64 (.dv .rem .u8 (.var (.i .u8) 7) 8)) (.lit (.i .i64) 3)) (.lit (.i .i64) 0) (.var (.i .i64) 640000160003776))), (.lit (.i .i64) 0)]))]
def q_26c_0 : E := (.cmp .eql (.conv .i64 (.dv .rem .u8 (.var (.i .u8) 7) 8)) (.lit (.i .i64) 3))
def ob_26c : E := (.and (.and (.and (.app .b 100000025 1000000 [(.var (.i .i64) 8), (.var (.i .i64) 6)]) (dE defs_26c 0 1)) (.and (.and (.app .b 100000025 1000000 [(.var (.i .i64) 10), (.lit (.i .i64) 20)]) (dE defs_26c 1 1)) (.and (.app .b 100000025 1000000 [(.var (.i .i64) 9), (.lit (.i .i64) 3000)]) (dE defs_26c 2 1)))) (.and (.or (.not q_26c_0) (.and (.app .b 100000025 1000000 [(.var (.i .i64) 9), (.lit (.i .i64) 2147483648)]) (dE defs_26c 3 1))) (.and (.app .b 100009126 1000000 [(.var .x 0), (.var (.i .i64) 1), (.var (.i .i64) 2), (.var (.i .i64) 3), (.var (.i .i64) 4), (.var .x 5), (.var (.i .i64) 6), (.var (.i .i64) 11), (.var (.i .i64) 640000160002240), (.conv .i64 (.dv .rem .u8 (.var (.i .u8) 7) 8)), (.ite q_26c_0 (.var (.i .i64) 640000160010432) (.var (.i .i64) 640000160007872)), (.bin .add .i64 (.lit (.i .i64) 1) (.ite q_26c_0 (.lit (.i .i64) 0) (.var (.i .i64) 640000160003776))), (.lit (.i .i64) 0)]) (dE defs_26c 4 7))))
def es_26c : List E := [(.var .x 640058406410432), (.var (.i .i64) 640058406410433), (.var (.i .i64) 640058406410434), (.var (.i .i64) 640058406410435), (.var (.i .i64) 640058406410436), (.var .x 640058406410437), (.var (.i .i64) 640058406410438)]
def e26c : Ent := b26c.fw (fnR cPcn.l.F b26c.np ob_26c es_26c post26c)
theorem ev_26c : evE Try.prog G0 (tabOf cPcn.fs) (ltOf cPcn.ls) 40 10 e26c = some (ob_26c, es_26c) := by kernel_rfl

def pCt : List Bool := [true,true,true,true,true,false,true,false,false,true,true,false,false,true,true,false,true,true,true,false,true,false]
def muCt (xs : List Int) : Nat := (env xs 8 - env xs 9).toNat
def lbCt : LEnt := ⟨⟨9104, 999999, [wsh, i64, i64, i64, i64], [wob], [], .tup [i64], z0, preCt⟩, [5, 7, 9, 58, 59], [9], [12, 13] ++ (List.range 22).map (· + 59), [.ex 3], 92, []⟩

def defs_LCt : List (Nat × E) := [(640000096006016, (.app .x 100000015 0 [(.var .x 0), (.var (.i .i64) 1), (.var (.i .i64) 2), (.var (.i .i64) 3), (.var (.i .i64) 4), (.var .x 5)])),
  (640000096006017, (.app (.i .i64) 100000015 1 [(.var .x 0), (.var (.i .i64) 1), (.var (.i .i64) 2), (.var (.i .i64) 3), (.var (.i .i64) 4), (.var .x 5)])),
  (640000096006018, (.app (.i .i64) 100000015 2 [(.var .x 0), (.var (.i .i64) 1), (.var (.i .i64) 2), (.var (.i .i64) 3), (.var (.i .i64) 4), (.var .x 5)])),
  (640000096006019, (.app (.i .i64) 100000015 3 [(.var .x 0), (.var (.i .i64) 1), (.var (.i .i64) 2), (.var (.i .i64) 3), (.var (.i .i64) 4), (.var .x 5)])),
  (640000096006020, (.app (.i .i64) 100000015 4 [(.var .x 0), (.var (.i .i64) 1), (.var (.i .i64) 2), (.var (.i .i64) 3), (.var (.i .i64) 4), (.var .x 5)])),
  (640000096006021, (.app .x 100000015 5 [(.var .x 0), (.var (.i .i64) 1), (.var (.i .i64) 2), (.var (.i .i64) 3), (.var (.i .i64) 4), (.var .x 5)])),
  (640000096006022, (.app (.i .i64) 100000015 6 [(.var .x 0), (.var (.i .i64) 1), (.var (.i .i64) 2), (.var (.i .i64) 3), (.var (.i .i64) 4), (.var .x 5)]))]
def q_LCt_0 : E := (.or (.cmp .lss (.var (.i .i64) 640000096006022) (.lit (.i .i64) 0)) (.cmp .gtr (.var (.i .i64) 640000096006022) (.var (.i .i64) 6)))
def q_LCt_1 : E := (.and (.cmp .lss (.var (.i .i64) 9) (.var (.i .i64) 8)) (.not q_LCt_0))
def ob_LCt : E := (.and (.and (.or (.not (.cmp .lss (.var (.i .i64) 9) (.var (.i .i64) 8))) (.and (.app .b 100000015 1000000 [(.var .x 0), (.var (.i .i64) 1), (.var (.i .i64) 2), (.var (.i .i64) 3), (.var (.i .i64) 4), (.var .x 5)]) (dE defs_LCt 0 7))) (.or (.not q_LCt_1) (.app .b 9104 1000000 [(.var .x 640000096006016), (.var (.i .i64) 640000096006017), (.var (.i .i64) 640000096006018), (.var (.i .i64) 640000096006019), (.var (.i .i64) 640000096006020), (.var .x 640000096006021), (.var (.i .i64) 6), (.bin .add .i64 (.var (.i .i64) 7) (.var (.i .i64) 640000096006022)), (.var (.i .i64) 8), (.bin .add .i64 (.var (.i .i64) 9) (.lit (.i .i64) 1))]))) (.and (.or (.not (.or (.not (.cmp .lss (.var (.i .i64) 9) (.var (.i .i64) 8))) q_LCt_1)) (.ite (.not (.cmp .lss (.var (.i .i64) 9) (.var (.i .i64) 8))) (.not (.cmp .lss (.var (.i .i64) 9) (.var (.i .i64) 8))) (.cmp .lss (.var (.i .i64) 9) (.var (.i .i64) 8)))) (.not (.and (.cmp .lss (.var (.i .i64) 9) (.var (.i .i64) 8)) q_LCt_0))))
def es_LCt : List E := [(.ite (.not (.cmp .lss (.var (.i .i64) 9) (.var (.i .i64) 8))) (.var .x 0) (.app .x 9104 0 [(.var .x 640000096006016), (.var (.i .i64) 640000096006017), (.var (.i .i64) 640000096006018), (.var (.i .i64) 640000096006019), (.var (.i .i64) 640000096006020), (.var .x 640000096006021), (.var (.i .i64) 6), (.bin .add .i64 (.var (.i .i64) 7) (.var (.i .i64) 640000096006022)), (.var (.i .i64) 8), (.bin .add .i64 (.var (.i .i64) 9) (.lit (.i .i64) 1))])), (.ite (.not (.cmp .lss (.var (.i .i64) 9) (.var (.i .i64) 8))) (.var (.i .i64) 1) (.app (.i .i64) 9104 1 [(.var .x 640000096006016), (.var (.i .i64) 640000096006017), (.var (.i .i64) 640000096006018), (.var (.i .i64) 640000096006019), (.var (.i .i64) 640000096006020), (.var .x 640000096006021), (.var (.i .i64) 6), (.bin .add .i64 (.var (.i .i64) 7) (.var (.i .i64) 640000096006022)), (.var (.i .i64) 8), (.bin .add .i64 (.var (.i .i64) 9) (.lit (.i .i64) 1))])), (.ite (.not (.cmp .lss (.var (.i .i64) 9) (.var (.i .i64) 8))) (.var (.i .i64) 2) (.app (.i .i64) 9104 2 [(.var .x 640000096006016), (.var (.i .i64) 640000096006017), (.var (.i .i64) 640000096006018), (.var (.i .i64) 640000096006019), (.var (.i .i64) 640000096006020), (.var .x 640000096006021), (.var (.i .i64) 6), (.bin .add .i64 (.var (.i .i64) 7) (.var (.i .i64) 640000096006022)), (.var (.i .i64) 8), (.bin .add .i64 (.var (.i .i64) 9) (.lit (.i .i64) 1))])), (.ite (.not (.cmp .lss (.var (.i .i64) 9) (.var (.i .i64) 8))) (.var (.i .i64) 3) (.app (.i .i64) 9104 3 [(.var .x 640000096006016), (.var (.i .i64) 640000096006017), (.var (.i .i64) 640000096006018), (.var (.i .i64) 640000096006019), (.var (.i .i64) 640000096006020), (.var .x 640000096006021), (.var (.i .i64) 6), (.bin .add .i64 (.var (.i .i64) 7) (.var (.i .i64) 640000096006022)), (.var (.i .i64) 8), (.bin .add .i64 (.var (.i .i64) 9) (.lit (.i .i64) 1))])), (.ite (.not (.cmp .lss (.var (.i .i64) 9) (.var (.i .i64) 8))) (.var (.i .i64) 4) (.app (.i .i64) 9104 4 [(.var .x 640000096006016), (.var (.i .i64) 640000096006017), (.var (.i .i64) 640000096006018), (.var (.i .i64) 640000096006019), (.var (.i .i64) 640000096006020), (.var .x 640000096006021), (.var (.i .i64) 6), (.bin .add .i64 (.var (.i .i64) 7) (.var (.i .i64) 640000096006022)), (.var (.i .i64) 8), (.bin .add .i64 (.var (.i .i64) 9) (.lit (.i .i64) 1))])), (.ite (.not (.cmp .lss (.var (.i .i64) 9) (.var (.i .i64) 8))) (.var .x 5) (.app .x 9104 5 [(.var .x 640000096006016), (.var (.i .i64) 640000096006017), (.var (.i .i64) 640000096006018), (.var (.i .i64) 640000096006019), (.var (.i .i64) 640000096006020), (.var .x 640000096006021), (.var (.i .i64) 6), (.bin .add .i64 (.var (.i .i64) 7) (.var (.i .i64) 640000096006022)), (.var (.i .i64) 8), (.bin .add .i64 (.var (.i .i64) 9) (.lit (.i .i64) 1))])), (.ite (.not (.cmp .lss (.var (.i .i64) 9) (.var (.i .i64) 8))) (.var (.i .i64) 7) (.app (.i .i64) 9104 6 [(.var .x 640000096006016), (.var (.i .i64) 640000096006017), (.var (.i .i64) 640000096006018), (.var (.i .i64) 640000096006019), (.var (.i .i64) 640000096006020), (.var .x 640000096006021), (.var (.i .i64) 6), (.bin .add .i64 (.var (.i .i64) 7) (.var (.i .i64) 640000096006022)), (.var (.i .i64) 8), (.bin .add .i64 (.var (.i .i64) 9) (.lit (.i .i64) 1))]))]
def leCt : LEnt := lbCt.fw (fnL lbCt cTn.l ob_LCt es_LCt postCt muCt)
theorem ev_LCt : evL Try.prog G0 (tabOf cTn.fs) (evFn Try.prog G0 (tabOf cTn.fs) (ltOf cTn.ls) 40 10) 40 (subL cTn.ls 4 pCt) leCt (bodyAt Try.prog 4 pCt) = some (ob_LCt, es_LCt) := by kernel_rfl

def pCo : List Bool := [true,true,true,true,true,false,true,false]
def muCo (xs : List Int) : Nat := (env xs 11 - env xs 12).toNat
def lbCo : LEnt := ⟨⟨9004, 999999, [wsh, i64, i64, bx, i64, acts, i64, i64], [wob, bxO 2], [3], .tup [i64], z0, preCo⟩, [5, 6, 7, 8, 9, 28, 29, 30], [9], [11, 12, 13] ++ (List.range 62).map (· + 30), [.ex 0], 92, []⟩
def cUc : Ctx := ⟨[e24, e25, e26c], [(4, pCt, leCt)]⟩
def cUcn : Ctx := cUc.nm

def defs_LCo : List (Nat × E) := [(640000160006656, (.app (.i .i64) 100000025 0 [(.app (.i .i64) 0 1 [(.var .x 10), (.var (.i .i64) 12), (.lit .x 1)]), (.var (.i .i64) 6)])),
  (640000153606656, (.app .x 100000024 0 [(.var .x 0), (.var (.i .i64) 1), (.var (.i .i64) 2), (.var (.i .i64) 3), (.var (.i .i64) 4), (.var .x 5), (.var (.i .i64) 640000160006656)])),
  (640000153606657, (.app (.i .i64) 100000024 1 [(.var .x 0), (.var (.i .i64) 1), (.var (.i .i64) 2), (.var (.i .i64) 3), (.var (.i .i64) 4), (.var .x 5), (.var (.i .i64) 640000160006656)])),
  (640000153606658, (.app (.i .i64) 100000024 2 [(.var .x 0), (.var (.i .i64) 1), (.var (.i .i64) 2), (.var (.i .i64) 3), (.var (.i .i64) 4), (.var .x 5), (.var (.i .i64) 640000160006656)])),
  (640000153606659, (.app (.i .i64) 100000024 3 [(.var .x 0), (.var (.i .i64) 1), (.var (.i .i64) 2), (.var (.i .i64) 3), (.var (.i .i64) 4), (.var .x 5), (.var (.i .i64) 640000160006656)])),
  (640000153606660, (.app (.i .i64) 100000024 4 [(.var .x 0), (.var (.i .i64) 1), (.var (.i .i64) 2), (.var (.i .i64) 3), (.var (.i .i64) 4), (.var .x 5), (.var (.i .i64) 640000160006656)])),
  (640000153606661, (.app .x 100000024 5 [(.var .x 0), (.var (.i .i64) 1), (.var (.i .i64) 2), (.var (.i .i64) 3), (.var (.i .i64) 4), (.var .x 5), (.var (.i .i64) 640000160006656)])),
  (640000153606662, (.app (.i .i64) 100000024 6 [(.var .x 0), (.var (.i .i64) 1), (.var (.i .i64) 2), (.var (.i .i64) 3), (.var (.i .i64) 4), (.var .x 5), (.var (.i .i64) 640000160006656)])),
  (640000160007168, (.app (.i .i64) 100000025 0 [(.app (.i .i64) 0 1 [(.var .x 10), (.var (.i .i64) 12), (.lit .x 3)]), (.lit (.i .i64) 300)])),
  (640058265607168, (.app .x 100009104 0 [(.var .x 0), (.var (.i .i64) 1), (.var (.i .i64) 2), (.var (.i .i64) 3), (.var (.i .i64) 4), (.var .x 5), (.var (.i .i64) 7), (.var (.i .i64) 9), (.bin .add .i64 (.lit (.i .i64) 1) (.var (.i .i64) 640000160007168)), (.lit (.i .i64) 0)])),
  (640058265607169, (.app (.i .i64) 100009104 1 [(.var .x 0), (.var (.i .i64) 1), (.var (.i .i64) 2), (.var (.i .i64) 3), (.var (.i .i64) 4), (.var .x 5), (.var (.i .i64) 7), (.var (.i .i64) 9), (.bin .add .i64 (.lit (.i .i64) 1) (.var (.i .i64) 640000160007168)), (.lit (.i .i64) 0)])),
  (640058265607170, (.app (.i .i64) 100009104 2 [(.var .x 0), (.var (.i .i64) 1), (.var (.i .i64) 2), (.var (.i .i64) 3), (.var (.i .i64) 4), (.var .x 5), (.var (.i .i64) 7), (.var (.i .i64) 9), (.bin .add .i64 (.lit (.i .i64) 1) (.var (.i .i64) 640000160007168)), (.lit (.i .i64) 0)])),
  (640058265607171, (.app (.i .i64) 100009104 3 [(.var .x 0), (.var (.i .i64) 1), (.var (.i .i64) 2), (.var (.i .i64) 3), (.var (.i .i64) 4), (.var .x 5), (.var (.i .i64) 7), (.var (.i .i64) 9), (.bin .add .i64 (.lit (.i .i64) 1) (.var (.i .i64) 640000160007168)), (.lit (.i .i64) 0)])),
  (640058265607172, (.app (.i .i64) 100009104 4 [(.var .x 0), (.var (.i .i64) 1), (.var (.i .i64) 2), (.var (.i .i64) 3), (.var (.i .i64) 4), (.var .x 5), (.var (.i .i64) 7), (.var (.i .i64) 9), (.bin .add .i64 (.lit (.i .i64) 1) (.var (.i .i64) 640000160007168)), (.lit (.i .i64) 0)])),
  (640058265607173, (.app .x 100009104 5 [(.var .x 0), (.var (.i .i64) 1), (.var (.i .i64) 2), (.var (.i .i64) 3), (.var (.i .i64) 4), (.var .x 5), (.var (.i .i64) 7), (.var (.i .i64) 9), (.bin .add .i64 (.lit (.i .i64) 1) (.var (.i .i64) 640000160007168)), (.lit (.i .i64) 0)])),
  (640058265607174, (.app (.i .i64) 100009104 6 [(.var .x 0), (.var (.i .i64) 1), (.var (.i .i64) 2), (.var (.i .i64) 3), (.var (.i .i64) 4), (.var .x 5), (.var (.i .i64) 7), (.var (.i .i64) 9), (.bin .add .i64 (.lit (.i .i64) 1) (.var (.i .i64) 640000160007168)), (.lit (.i .i64) 0)])),
  (640006566407232, (.app .x 100001026 0 [(.var .x 0), (.var (.i .i64) 1), (.var (.i .i64) 2), (.var (.i .i64) 3), (.var (.i .i64) 4), (.var .x 5), (.var (.i .i64) 6), (.app (.i .u8) 0 1 [(.var .x 10), (.var (.i .i64) 12), (.lit .x 0)]), (.app (.i .i64) 0 1 [(.var .x 10), (.var (.i .i64) 12), (.lit .x 1)]), (.app (.i .i64) 0 1 [(.var .x 10), (.var (.i .i64) 12), (.lit .x 2)]), (.app (.i .i64) 0 1 [(.var .x 10), (.var (.i .i64) 12), (.lit .x 3)]), (.var (.i .i64) 8)])),
  (640006566407233, (.app (.i .i64) 100001026 1 [(.var .x 0), (.var (.i .i64) 1), (.var (.i .i64) 2), (.var (.i .i64) 3), (.var (.i .i64) 4), (.var .x 5), (.var (.i .i64) 6), (.app (.i .u8) 0 1 [(.var .x 10), (.var (.i .i64) 12), (.lit .x 0)]), (.app (.i .i64) 0 1 [(.var .x 10), (.var (.i .i64) 12), (.lit .x 1)]), (.app (.i .i64) 0 1 [(.var .x 10), (.var (.i .i64) 12), (.lit .x 2)]), (.app (.i .i64) 0 1 [(.var .x 10), (.var (.i .i64) 12), (.lit .x 3)]), (.var (.i .i64) 8)])),
  (640006566407234, (.app (.i .i64) 100001026 2 [(.var .x 0), (.var (.i .i64) 1), (.var (.i .i64) 2), (.var (.i .i64) 3), (.var (.i .i64) 4), (.var .x 5), (.var (.i .i64) 6), (.app (.i .u8) 0 1 [(.var .x 10), (.var (.i .i64) 12), (.lit .x 0)]), (.app (.i .i64) 0 1 [(.var .x 10), (.var (.i .i64) 12), (.lit .x 1)]), (.app (.i .i64) 0 1 [(.var .x 10), (.var (.i .i64) 12), (.lit .x 2)]), (.app (.i .i64) 0 1 [(.var .x 10), (.var (.i .i64) 12), (.lit .x 3)]), (.var (.i .i64) 8)])),
  (640006566407235, (.app (.i .i64) 100001026 3 [(.var .x 0), (.var (.i .i64) 1), (.var (.i .i64) 2), (.var (.i .i64) 3), (.var (.i .i64) 4), (.var .x 5), (.var (.i .i64) 6), (.app (.i .u8) 0 1 [(.var .x 10), (.var (.i .i64) 12), (.lit .x 0)]), (.app (.i .i64) 0 1 [(.var .x 10), (.var (.i .i64) 12), (.lit .x 1)]), (.app (.i .i64) 0 1 [(.var .x 10), (.var (.i .i64) 12), (.lit .x 2)]), (.app (.i .i64) 0 1 [(.var .x 10), (.var (.i .i64) 12), (.lit .x 3)]), (.var (.i .i64) 8)])),
  (640006566407236, (.app (.i .i64) 100001026 4 [(.var .x 0), (.var (.i .i64) 1), (.var (.i .i64) 2), (.var (.i .i64) 3), (.var (.i .i64) 4), (.var .x 5), (.var (.i .i64) 6), (.app (.i .u8) 0 1 [(.var .x 10), (.var (.i .i64) 12), (.lit .x 0)]), (.app (.i .i64) 0 1 [(.var .x 10), (.var (.i .i64) 12), (.lit .x 1)]), (.app (.i .i64) 0 1 [(.var .x 10), (.var (.i .i64) 12), (.lit .x 2)]), (.app (.i .i64) 0 1 [(.var .x 10), (.var (.i .i64) 12), (.lit .x 3)]), (.var (.i .i64) 8)])),
  (640006566407237, (.app .x 100001026 5 [(.var .x 0), (.var (.i .i64) 1), (.var (.i .i64) 2), (.var (.i .i64) 3), (.var (.i .i64) 4), (.var .x 5), (.var (.i .i64) 6), (.app (.i .u8) 0 1 [(.var .x 10), (.var (.i .i64) 12), (.lit .x 0)]), (.app (.i .i64) 0 1 [(.var .x 10), (.var (.i .i64) 12), (.lit .x 1)]), (.app (.i .i64) 0 1 [(.var .x 10), (.var (.i .i64) 12), (.lit .x 2)]), (.app (.i .i64) 0 1 [(.var .x 10), (.var (.i .i64) 12), (.lit .x 3)]), (.var (.i .i64) 8)])),
  (640006566407238, (.app (.i .i64) 100001026 6 [(.var .x 0), (.var (.i .i64) 1), (.var (.i .i64) 2), (.var (.i .i64) 3), (.var (.i .i64) 4), (.var .x 5), (.var (.i .i64) 6), (.app (.i .u8) 0 1 [(.var .x 10), (.var (.i .i64) 12), (.lit .x 0)]), (.app (.i .i64) 0 1 [(.var .x 10), (.var (.i .i64) 12), (.lit .x 1)]), (.app (.i .i64) 0 1 [(.var .x 10), (.var (.i .i64) 12), (.lit .x 2)]), (.app (.i .i64) 0 1 [(.var .x 10), (.var (.i .i64) 12), (.lit .x 3)]), (.var (.i .i64) 8)]))]
def q_LCo_0 : E := (.dv .rem .u8 (.app (.i .u8) 0 1 [(.var .x 10), (.var (.i .i64) 12), (.lit .x 0)]) 8)
def q_LCo_1 : E := (.cmp .eql q_LCo_0 (.lit (.i .u8) 4))
def q_LCo_2 : E := (.cmp .eql q_LCo_0 (.lit (.i .u8) 6))
def q_LCo_3 : E := (.ite q_LCo_1 q_LCo_1 (.ite q_LCo_2 q_LCo_2 (.cmp .eql q_LCo_0 (.lit (.i .u8) 7))))
def q_LCo_4 : E := (.not q_LCo_3)
def q_LCo_5 : E := (.cmp .eql q_LCo_0 (.lit (.i .u8) 5))
def q_LCo_6 : E := (.not q_LCo_5)
def q_LCo_7 : E := (.ite q_LCo_3 (.var .x 640000153606656) (.ite q_LCo_5 (.var .x 640058265607168) (.var .x 640006566407232)))
def q_LCo_8 : E := (.ite q_LCo_3 (.var (.i .i64) 640000153606657) (.ite q_LCo_5 (.var (.i .i64) 640058265607169) (.var (.i .i64) 640006566407233)))
def q_LCo_9 : E := (.ite q_LCo_3 (.var (.i .i64) 640000153606658) (.ite q_LCo_5 (.var (.i .i64) 640058265607170) (.var (.i .i64) 640006566407234)))
def q_LCo_10 : E := (.ite q_LCo_3 (.var (.i .i64) 640000153606659) (.ite q_LCo_5 (.var (.i .i64) 640058265607171) (.var (.i .i64) 640006566407235)))
def q_LCo_11 : E := (.ite q_LCo_3 (.var (.i .i64) 640000153606660) (.ite q_LCo_5 (.var (.i .i64) 640058265607172) (.var (.i .i64) 640006566407236)))
def q_LCo_12 : E := (.ite q_LCo_3 (.var .x 640000153606661) (.ite q_LCo_5 (.var .x 640058265607173) (.var .x 640006566407237)))
def q_LCo_13 : E := (.ite q_LCo_3 (.var (.i .i64) 8) (.ite q_LCo_5 (.var (.i .i64) 8) (.var (.i .i64) 640006566407238)))
def q_LCo_14 : E := (.ite q_LCo_3 (.var (.i .i64) 9) (.ite q_LCo_5 (.var (.i .i64) 640058265607174) (.var (.i .i64) 9)))
def ob_LCo : E := (.and (.and (.or (.not (.cmp .lss (.var (.i .i64) 12) (.var (.i .i64) 11))) (.and (.and (.cmp .geq (.var (.i .i64) 12) (.lit (.i .i64) 0)) (.cmp .lss (.var (.i .i64) 12) (.app (.i .i64) 0 0 [(.var .x 10)]))) (.and (.or q_LCo_4 (.and (.and (.app .b 100000025 1000000 [(.app (.i .i64) 0 1 [(.var .x 10), (.var (.i .i64) 12), (.lit .x 1)]), (.var (.i .i64) 6)]) (dE defs_LCo 0 1)) (.and (.app .b 100000024 1000000 [(.var .x 0), (.var (.i .i64) 1), (.var (.i .i64) 2), (.var (.i .i64) 3), (.var (.i .i64) 4), (.var .x 5), (.var (.i .i64) 640000160006656)]) (dE defs_LCo 1 7)))) (.or q_LCo_3 (.and (.or q_LCo_6 (.and (.and (.app .b 100000025 1000000 [(.app (.i .i64) 0 1 [(.var .x 10), (.var (.i .i64) 12), (.lit .x 3)]), (.lit (.i .i64) 300)]) (dE defs_LCo 8 1)) (.and (.app .b 100009104 1000000 [(.var .x 0), (.var (.i .i64) 1), (.var (.i .i64) 2), (.var (.i .i64) 3), (.var (.i .i64) 4), (.var .x 5), (.var (.i .i64) 7), (.var (.i .i64) 9), (.bin .add .i64 (.lit (.i .i64) 1) (.var (.i .i64) 640000160007168)), (.lit (.i .i64) 0)]) (dE defs_LCo 9 7)))) (.or q_LCo_5 (.and (.app .b 100001026 1000000 [(.var .x 0), (.var (.i .i64) 1), (.var (.i .i64) 2), (.var (.i .i64) 3), (.var (.i .i64) 4), (.var .x 5), (.var (.i .i64) 6), (.app (.i .u8) 0 1 [(.var .x 10), (.var (.i .i64) 12), (.lit .x 0)]), (.app (.i .i64) 0 1 [(.var .x 10), (.var (.i .i64) 12), (.lit .x 1)]), (.app (.i .i64) 0 1 [(.var .x 10), (.var (.i .i64) 12), (.lit .x 2)]), (.app (.i .i64) 0 1 [(.var .x 10), (.var (.i .i64) 12), (.lit .x 3)]), (.var (.i .i64) 8)]) (dE defs_LCo 16 7)))))))) (.or (.not (.cmp .lss (.var (.i .i64) 12) (.var (.i .i64) 11))) (.and (.ite q_LCo_3 q_LCo_3 (.ite q_LCo_5 (.and q_LCo_4 q_LCo_5) (.and q_LCo_4 q_LCo_6))) (.app .b 9004 1000000 [q_LCo_7, q_LCo_8, q_LCo_9, q_LCo_10, q_LCo_11, q_LCo_12, (.var (.i .i64) 6), (.var (.i .i64) 7), q_LCo_13, q_LCo_14, (.var .x 10), (.var (.i .i64) 11), (.bin .add .i64 (.var (.i .i64) 12) (.lit (.i .i64) 1))])))) (.or (.not (.or (.not (.cmp .lss (.var (.i .i64) 12) (.var (.i .i64) 11))) (.cmp .lss (.var (.i .i64) 12) (.var (.i .i64) 11)))) (.ite (.not (.cmp .lss (.var (.i .i64) 12) (.var (.i .i64) 11))) (.not (.cmp .lss (.var (.i .i64) 12) (.var (.i .i64) 11))) (.cmp .lss (.var (.i .i64) 12) (.var (.i .i64) 11)))))
def es_LCo : List E := [(.ite (.not (.cmp .lss (.var (.i .i64) 12) (.var (.i .i64) 11))) (.var .x 0) (.app .x 9004 0 [q_LCo_7, q_LCo_8, q_LCo_9, q_LCo_10, q_LCo_11, q_LCo_12, (.var (.i .i64) 6), (.var (.i .i64) 7), q_LCo_13, q_LCo_14, (.var .x 10), (.var (.i .i64) 11), (.bin .add .i64 (.var (.i .i64) 12) (.lit (.i .i64) 1))])), (.ite (.not (.cmp .lss (.var (.i .i64) 12) (.var (.i .i64) 11))) (.var (.i .i64) 1) (.app (.i .i64) 9004 1 [q_LCo_7, q_LCo_8, q_LCo_9, q_LCo_10, q_LCo_11, q_LCo_12, (.var (.i .i64) 6), (.var (.i .i64) 7), q_LCo_13, q_LCo_14, (.var .x 10), (.var (.i .i64) 11), (.bin .add .i64 (.var (.i .i64) 12) (.lit (.i .i64) 1))])), (.ite (.not (.cmp .lss (.var (.i .i64) 12) (.var (.i .i64) 11))) (.var (.i .i64) 2) (.app (.i .i64) 9004 2 [q_LCo_7, q_LCo_8, q_LCo_9, q_LCo_10, q_LCo_11, q_LCo_12, (.var (.i .i64) 6), (.var (.i .i64) 7), q_LCo_13, q_LCo_14, (.var .x 10), (.var (.i .i64) 11), (.bin .add .i64 (.var (.i .i64) 12) (.lit (.i .i64) 1))])), (.ite (.not (.cmp .lss (.var (.i .i64) 12) (.var (.i .i64) 11))) (.var (.i .i64) 3) (.app (.i .i64) 9004 3 [q_LCo_7, q_LCo_8, q_LCo_9, q_LCo_10, q_LCo_11, q_LCo_12, (.var (.i .i64) 6), (.var (.i .i64) 7), q_LCo_13, q_LCo_14, (.var .x 10), (.var (.i .i64) 11), (.bin .add .i64 (.var (.i .i64) 12) (.lit (.i .i64) 1))])), (.ite (.not (.cmp .lss (.var (.i .i64) 12) (.var (.i .i64) 11))) (.var (.i .i64) 4) (.app (.i .i64) 9004 4 [q_LCo_7, q_LCo_8, q_LCo_9, q_LCo_10, q_LCo_11, q_LCo_12, (.var (.i .i64) 6), (.var (.i .i64) 7), q_LCo_13, q_LCo_14, (.var .x 10), (.var (.i .i64) 11), (.bin .add .i64 (.var (.i .i64) 12) (.lit (.i .i64) 1))])), (.ite (.not (.cmp .lss (.var (.i .i64) 12) (.var (.i .i64) 11))) (.var .x 5) (.app .x 9004 5 [q_LCo_7, q_LCo_8, q_LCo_9, q_LCo_10, q_LCo_11, q_LCo_12, (.var (.i .i64) 6), (.var (.i .i64) 7), q_LCo_13, q_LCo_14, (.var .x 10), (.var (.i .i64) 11), (.bin .add .i64 (.var (.i .i64) 12) (.lit (.i .i64) 1))])), (.ite (.not (.cmp .lss (.var (.i .i64) 12) (.var (.i .i64) 11))) (.var (.i .i64) 8) (.app (.i .i64) 9004 6 [q_LCo_7, q_LCo_8, q_LCo_9, q_LCo_10, q_LCo_11, q_LCo_12, (.var (.i .i64) 6), (.var (.i .i64) 7), q_LCo_13, q_LCo_14, (.var .x 10), (.var (.i .i64) 11), (.bin .add .i64 (.var (.i .i64) 12) (.lit (.i .i64) 1))])), (.ite (.not (.cmp .lss (.var (.i .i64) 12) (.var (.i .i64) 11))) (.var (.i .i64) 9) (.app (.i .i64) 9004 7 [q_LCo_7, q_LCo_8, q_LCo_9, q_LCo_10, q_LCo_11, q_LCo_12, (.var (.i .i64) 6), (.var (.i .i64) 7), q_LCo_13, q_LCo_14, (.var .x 10), (.var (.i .i64) 11), (.bin .add .i64 (.var (.i .i64) 12) (.lit (.i .i64) 1))]))]
def leCo : LEnt := lbCo.fw (fnL lbCo cUcn.l ob_LCo es_LCo postCo muCo)
theorem ev_LCo : evL Try.prog G0 (tabOf cUcn.fs) (evFn Try.prog G0 (tabOf cUcn.fs) (ltOf cUcn.ls) 40 10) 40 (subL cUcn.ls 4 pCo) leCo (bodyAt Try.prog 4 pCo) = some (ob_LCo, es_LCo) := by kernel_rfl

def b4 : Ent := ⟨4, 4, [numS, acts], [], [0], .lt .b 1, z0, preA4⟩
def cX4 : Ctx := ⟨[e22, e23, e21], [(4, pCo, leCo)]⟩
def cX4n : Ctx := cX4.nm

def defs_4 : List (Nat × E) := [(640000147200576, (.app .x 100000023 0 [(.var (.i .u8) 0), (.var (.i .u8) 1), (.var (.i .i64) 2), (.var (.i .i64) 3)])),
  (640000147200577, (.app (.i .i64) 100000023 1 [(.var (.i .u8) 0), (.var (.i .u8) 1), (.var (.i .i64) 2), (.var (.i .i64) 3)])),
  (640000147200578, (.app (.i .i64) 100000023 2 [(.var (.i .u8) 0), (.var (.i .u8) 1), (.var (.i .i64) 2), (.var (.i .i64) 3)])),
  (640000147200579, (.app (.i .i64) 100000023 3 [(.var (.i .u8) 0), (.var (.i .u8) 1), (.var (.i .i64) 2), (.var (.i .i64) 3)])),
  (640000147200580, (.app (.i .i64) 100000023 4 [(.var (.i .u8) 0), (.var (.i .u8) 1), (.var (.i .i64) 2), (.var (.i .i64) 3)])),
  (640000147200581, (.app .x 100000023 5 [(.var (.i .u8) 0), (.var (.i .u8) 1), (.var (.i .i64) 2), (.var (.i .i64) 3)])),
  (640000147200582, (.app (.i .i64) 100000023 6 [(.var (.i .u8) 0), (.var (.i .u8) 1), (.var (.i .i64) 2), (.var (.i .i64) 3)])),
  (640000147200583, (.app (.i .i64) 100000023 7 [(.var (.i .u8) 0), (.var (.i .u8) 1), (.var (.i .i64) 2), (.var (.i .i64) 3)])),
  (640057625602112, (.app .x 100009004 0 [(.var .x 640000147200576), (.var (.i .i64) 640000147200577), (.var (.i .i64) 640000147200578), (.var (.i .i64) 640000147200579), (.var (.i .i64) 640000147200580), (.var .x 640000147200581), (.var (.i .i64) 640000147200582), (.var (.i .i64) 640000147200583), (.lit (.i .i64) 0), (.lit (.i .i64) 0), (.app .x 0 5 [(.var .x 4), (.lit (.i .i64) 0), (.ite (.cmp .lss (.lit (.i .i64) 30) (.app (.i .i64) 0 0 [(.var .x 4)])) (.lit (.i .i64) 30) (.app (.i .i64) 0 0 [(.var .x 4)]))]), (.app (.i .i64) 0 0 [(.app .x 0 5 [(.var .x 4), (.lit (.i .i64) 0), (.ite (.cmp .lss (.lit (.i .i64) 30) (.app (.i .i64) 0 0 [(.var .x 4)])) (.lit (.i .i64) 30) (.app (.i .i64) 0 0 [(.var .x 4)]))])]), (.lit (.i .i64) 0)])),
  (640057625602113, (.app (.i .i64) 100009004 1 [(.var .x 640000147200576), (.var (.i .i64) 640000147200577), (.var (.i .i64) 640000147200578), (.var (.i .i64) 640000147200579), (.var (.i .i64) 640000147200580), (.var .x 640000147200581), (.var (.i .i64) 640000147200582), (.var (.i .i64) 640000147200583), (.lit (.i .i64) 0), (.lit (.i .i64) 0), (.app .x 0 5 [(.var .x 4), (.lit (.i .i64) 0), (.ite (.cmp .lss (.lit (.i .i64) 30) (.app (.i .i64) 0 0 [(.var .x 4)])) (.lit (.i .i64) 30) (.app (.i .i64) 0 0 [(.var .x 4)]))]), (.app (.i .i64) 0 0 [(.app .x 0 5 [(.var .x 4), (.lit (.i .i64) 0), (.ite (.cmp .lss (.lit (.i .i64) 30) (.app (.i .i64) 0 0 [(.var .x 4)])) (.lit (.i .i64) 30) (.app (.i .i64) 0 0 [(.var .x 4)]))])]), (.lit (.i .i64) 0)])),
  (640057625602114, (.app (.i .i64) 100009004 2 [(.var .x 640000147200576), (.var (.i .i64) 640000147200577), (.var (.i .i64) 640000147200578), (.var (.i .i64) 640000147200579), (.var (.i .i64) 640000147200580), (.var .x 640000147200581), (.var (.i .i64) 640000147200582), (.var (.i .i64) 640000147200583), (.lit (.i .i64) 0), (.lit (.i .i64) 0), (.app .x 0 5 [(.var .x 4), (.lit (.i .i64) 0), (.ite (.cmp .lss (.lit (.i .i64) 30) (.app (.i .i64) 0 0 [(.var .x 4)])) (.lit (.i .i64) 30) (.app (.i .i64) 0 0 [(.var .x 4)]))]), (.app (.i .i64) 0 0 [(.app .x 0 5 [(.var .x 4), (.lit (.i .i64) 0), (.ite (.cmp .lss (.lit (.i .i64) 30) (.app (.i .i64) 0 0 [(.var .x 4)])) (.lit (.i .i64) 30) (.app (.i .i64) 0 0 [(.var .x 4)]))])]), (.lit (.i .i64) 0)])),
  (640057625602115, (.app (.i .i64) 100009004 3 [(.var .x 640000147200576), (.var (.i .i64) 640000147200577), (.var (.i .i64) 640000147200578), (.var (.i .i64) 640000147200579), (.var (.i .i64) 640000147200580), (.var .x 640000147200581), (.var (.i .i64) 640000147200582), (.var (.i .i64) 640000147200583), (.lit (.i .i64) 0), (.lit (.i .i64) 0), (.app .x 0 5 [(.var .x 4), (.lit (.i .i64) 0), (.ite (.cmp .lss (.lit (.i .i64) 30) (.app (.i .i64) 0 0 [(.var .x 4)])) (.lit (.i .i64) 30) (.app (.i .i64) 0 0 [(.var .x 4)]))]), (.app (.i .i64) 0 0 [(.app .x 0 5 [(.var .x 4), (.lit (.i .i64) 0), (.ite (.cmp .lss (.lit (.i .i64) 30) (.app (.i .i64) 0 0 [(.var .x 4)])) (.lit (.i .i64) 30) (.app (.i .i64) 0 0 [(.var .x 4)]))])]), (.lit (.i .i64) 0)])),
  (640057625602116, (.app (.i .i64) 100009004 4 [(.var .x 640000147200576), (.var (.i .i64) 640000147200577), (.var (.i .i64) 640000147200578), (.var (.i .i64) 640000147200579), (.var (.i .i64) 640000147200580), (.var .x 640000147200581), (.var (.i .i64) 640000147200582), (.var (.i .i64) 640000147200583), (.lit (.i .i64) 0), (.lit (.i .i64) 0), (.app .x 0 5 [(.var .x 4), (.lit (.i .i64) 0), (.ite (.cmp .lss (.lit (.i .i64) 30) (.app (.i .i64) 0 0 [(.var .x 4)])) (.lit (.i .i64) 30) (.app (.i .i64) 0 0 [(.var .x 4)]))]), (.app (.i .i64) 0 0 [(.app .x 0 5 [(.var .x 4), (.lit (.i .i64) 0), (.ite (.cmp .lss (.lit (.i .i64) 30) (.app (.i .i64) 0 0 [(.var .x 4)])) (.lit (.i .i64) 30) (.app (.i .i64) 0 0 [(.var .x 4)]))])]), (.lit (.i .i64) 0)])),
  (640057625602117, (.app .x 100009004 5 [(.var .x 640000147200576), (.var (.i .i64) 640000147200577), (.var (.i .i64) 640000147200578), (.var (.i .i64) 640000147200579), (.var (.i .i64) 640000147200580), (.var .x 640000147200581), (.var (.i .i64) 640000147200582), (.var (.i .i64) 640000147200583), (.lit (.i .i64) 0), (.lit (.i .i64) 0), (.app .x 0 5 [(.var .x 4), (.lit (.i .i64) 0), (.ite (.cmp .lss (.lit (.i .i64) 30) (.app (.i .i64) 0 0 [(.var .x 4)])) (.lit (.i .i64) 30) (.app (.i .i64) 0 0 [(.var .x 4)]))]), (.app (.i .i64) 0 0 [(.app .x 0 5 [(.var .x 4), (.lit (.i .i64) 0), (.ite (.cmp .lss (.lit (.i .i64) 30) (.app (.i .i64) 0 0 [(.var .x 4)])) (.lit (.i .i64) 30) (.app (.i .i64) 0 0 [(.var .x 4)]))])]), (.lit (.i .i64) 0)])),
  (640057625602118, (.app (.i .i64) 100009004 6 [(.var .x 640000147200576), (.var (.i .i64) 640000147200577), (.var (.i .i64) 640000147200578), (.var (.i .i64) 640000147200579), (.var (.i .i64) 640000147200580), (.var .x 640000147200581), (.var (.i .i64) 640000147200582), (.var (.i .i64) 640000147200583), (.lit (.i .i64) 0), (.lit (.i .i64) 0), (.app .x 0 5 [(.var .x 4), (.lit (.i .i64) 0), (.ite (.cmp .lss (.lit (.i .i64) 30) (.app (.i .i64) 0 0 [(.var .x 4)])) (.lit (.i .i64) 30) (.app (.i .i64) 0 0 [(.var .x 4)]))]), (.app (.i .i64) 0 0 [(.app .x 0 5 [(.var .x 4), (.lit (.i .i64) 0), (.ite (.cmp .lss (.lit (.i .i64) 30) (.app (.i .i64) 0 0 [(.var .x 4)])) (.lit (.i .i64) 30) (.app (.i .i64) 0 0 [(.var .x 4)]))])]), (.lit (.i .i64) 0)])),
  (640057625602119, (.app (.i .i64) 100009004 7 [(.var .x 640000147200576), (.var (.i .i64) 640000147200577), (.var (.i .i64) 640000147200578), (.var (.i .i64) 640000147200579), (.var (.i .i64) 640000147200580), (.var .x 640000147200581), (.var (.i .i64) 640000147200582), (.var (.i .i64) 640000147200583), (.lit (.i .i64) 0), (.lit (.i .i64) 0), (.app .x 0 5 [(.var .x 4), (.lit (.i .i64) 0), (.ite (.cmp .lss (.lit (.i .i64) 30) (.app (.i .i64) 0 0 [(.var .x 4)])) (.lit (.i .i64) 30) (.app (.i .i64) 0 0 [(.var .x 4)]))]), (.app (.i .i64) 0 0 [(.app .x 0 5 [(.var .x 4), (.lit (.i .i64) 0), (.ite (.cmp .lss (.lit (.i .i64) 30) (.app (.i .i64) 0 0 [(.var .x 4)])) (.lit (.i .i64) 30) (.app (.i .i64) 0 0 [(.var .x 4)]))])]), (.lit (.i .i64) 0)])),
  (640000134402176, (.app (.i .i64) 100000021 0 [(.var .x 640057625602112), (.var (.i .i64) 640057625602113), (.var (.i .i64) 640057625602114), (.var (.i .i64) 640057625602115), (.var (.i .i64) 640057625602116), (.var .x 640057625602117)]))]
def q_4_0 : E := (.ite (.cmp .lss (.lit (.i .i64) 30) (.app (.i .i64) 0 0 [(.var .x 4)])) (.lit (.i .i64) 30) (.app (.i .i64) 0 0 [(.var .x 4)]))
def q_4_1 : E := (.app .x 0 5 [(.var .x 4), (.lit (.i .i64) 0), q_4_0])
def ob_4 : E := (.and (.and (.app .b 100000022 1000000 []) (.and (.and (.app .b 100000023 1000000 [(.var (.i .u8) 0), (.var (.i .u8) 1), (.var (.i .i64) 2), (.var (.i .i64) 3)]) (dE defs_4 0 8)) (.and (.and (.and (.cmp .leq (.lit (.i .i64) 0) q_4_0) (.cmp .leq q_4_0 (.app (.i .i64) 0 0 [(.var .x 4)]))) (.and (.app .b 100009004 1000000 [(.var .x 640000147200576), (.var (.i .i64) 640000147200577), (.var (.i .i64) 640000147200578), (.var (.i .i64) 640000147200579), (.var (.i .i64) 640000147200580), (.var .x 640000147200581), (.var (.i .i64) 640000147200582), (.var (.i .i64) 640000147200583), (.lit (.i .i64) 0), (.lit (.i .i64) 0), q_4_1, (.app (.i .i64) 0 0 [q_4_1]), (.lit (.i .i64) 0)]) (dE defs_4 8 8))) (.and (.app .b 100000021 1000000 [(.var .x 640057625602112), (.var (.i .i64) 640057625602113), (.var (.i .i64) 640057625602114), (.var (.i .i64) 640057625602115), (.var (.i .i64) 640057625602116), (.var .x 640057625602117)]) (dE defs_4 16 1))))) (.and (.cmp .eql (.var (.i .i64) 640000134402176) (.var (.i .i64) 640057625602119)) (.cmp .leq (.var (.i .i64) 640057625602119) (.bin .mul .i64 (.lit (.i .i64) 3) (.var (.i .i64) 640057625602118)))))
def es_4 : List E := []
def e4 : Ent := b4.fw (fnR cX4n.l.F b4.np ob_4 es_4 postN)
theorem ev_4 : evE Try.prog G0 (tabOf cX4n.fs) (ltOf cX4n.ls) 40 10 e4 = some (ob_4, es_4) := by kernel_rfl

section
variable {S now bu le mo T c ar : Int}
theorem CH.mos (h : CH S now bu le mo T c ar) : 0 ≤ mo ∧ mo ≤ 3 * ar := by
  obtain ⟨⟨d, B, hw⟩, h2, h3, h4, h5⟩ := h
  have := h2.sum c.toNat
  have := hw.mb
  omega
theorem CH.arm {S' now' bu' le' mo' T' e i dd : Int} (h : CH S now bu le mo T c ar) (ha : ar + 1 ≤ 1000000) (hi : 0 ≤ i ∧ i < c) (hd : now < dd ∧ dd ≤ now + 2147483648)
    (ho : isOut e14.fn [S, now, bu, le, mo, T, i, dd] 0 [.x, .i .i64, .i .i64, .i .i64, .i .i64, .x, .i .i64] [S', now', bu', le', mo', T', e]) :
    CH S' now' bu' le' mo' T' c (ar + 1) ∧ bu' = bu ∧ mo' = mo ∧ e = 0 := by
  obtain ⟨⟨d, B, hw⟩, h2, h3, h4, h5⟩ := h
  obtain ⟨q1, q2, q3, q4, q5, q6, q7, q8⟩ := hw.arm hi hd ho
  have hl := lvF_rng now dd
  have hct := hw.ct
  have hs := lvSum_upd (n := c.toNat) (T := dc T) (T' := dc T') (i := i.toNat) (by omega) q7
  have hn := h2 i.toNat
  refine ⟨⟨⟨_, _, q1⟩, fun y => ?_, by omega, by omega, by omega⟩, q3, q4, q5⟩
  by_cases hy : y = i.toNat
  · subst hy; omega
  · rw [q7 y hy]; exact h2 y
theorem CH.can {S' now' bu' le' mo' T' e i : Int} (h : CH S now bu le mo T c ar) (hi : 0 ≤ i ∧ i < c)
    (ho : isOut e24.fn [S, now, bu, le, mo, T, i] 0 [.x, .i .i64, .i .i64, .i .i64, .i .i64, .x, .i .i64] [S', now', bu', le', mo', T', e]) :
    CH S' now' bu' le' mo' T' c ar ∧ bu' = bu ∧ mo' = mo := by
  obtain ⟨⟨d, B, hw⟩, h2, h3, h4, h5⟩ := h
  obtain ⟨q1, q2, q3, q4, q5, q6, q7, q8⟩ := hw.can hi ho
  have hct := hw.ct
  have hs := lvSum_upd (n := c.toNat) (T := dc T) (T' := dc T') (i := i.toNat) (by omega) q7
  have hn := h2 i.toNat
  have q8' : 0 ≤ gC (dc T') i.toNat 0 ∧ gC (dc T') i.toNat 0 ≤ gC (dc T) i.toNat 0 := by rw [q8]; split <;> omega
  refine ⟨⟨⟨_, _, q1⟩, fun y => ?_, by omega, h4, h5⟩, q3, q4⟩
  by_cases hy : y = i.toNat
  · subst hy; exact q8'.1
  · rw [q7 y hy]; exact h2 y
theorem CH.tick {S' now' bu' le' mo' T' g : Int} (h : CH S now bu le mo T c ar)
    (ho : isOut e15.fn [S, now, bu, le, mo, T] 0 [.x, .i .i64, .i .i64, .i .i64, .i .i64, .x, .i .i64] [S', now', bu', le', mo', T', g]) :
    CH S' now' bu' le' mo' T' c ar ∧ bu' = bu ∧ mo' = mo + g ∧ 0 ≤ g ∧ g ≤ bu := by
  have hl := h.mos
  obtain ⟨⟨d, B, hw⟩, h2, h3, h4, h5⟩ := h
  have hbg := hw.bg
  obtain ⟨D, q1, q2, q3, q4, q5, q6, q7, q8, q9, q10⟩ := hw.tick (by omega) ho
  exact ⟨⟨⟨_, _, q1⟩, q10 h2, by omega, h4, h5⟩, q4, q6, q7, q8⟩
end

theorem okAc : ItemOK Try.prog G0 26 pAr leAc ∧ PostOK leAc.ent postAc := by
  refine cOok.nm.loopH mixed rfl ⟨_, _, _, Try.func26, rfl, rfl⟩ ev_LAc (by kernel_rfl) _ rfl fun xs hf hp φ hφ => ?_
  obtain ⟨l, hl, hS, hF⟩ := self_H lbAc φ muAc (muAc xs) cOn.l (by decide)
  show ∃ ρ : Nat → Int, _ ∧ ob_LAc.tt (Tabs.F (enH lbAc φ muAc (muAc xs) :: cOn.l)) ρ = true ∧ postAc xs (es_LAc.map (E.den (Tabs.F (enH lbAc φ muAc (muAc xs) :: cOn.l)) ρ))
  rw [hl]
  replace hφ : ∀ ys, fits [.x, (.i .i64), (.i .i64), (.i .i64), (.i .i64), .x, (.i .i64), (.i .i64), (.i .i64), (.i .i64), (.i .i64), (.i .i64), (.i .i64)] ys → lbAc.ent.pre ys → muAc ys < muAc xs → postAc ys (outsE φ ys 0 lbAc.ent.oks) := hφ
  have F9126 := FC (k := 9126) rfl hS
  have F14 := FC (k := 100000014) rfl (hF e14.nm (by rfl) (by decide) (by decide))
  have F18 := FC (k := 100000018) rfl (hF e18.nm (by rfl) (by decide) (by decide))
  replace hf : fits [.x, (.i .i64), (.i .i64), (.i .i64), (.i .i64), .x, (.i .i64), (.i .i64), (.i .i64), (.i .i64), (.i .i64), (.i .i64), (.i .i64)] xs := hf
  obtain ⟨S, xs0, hx0, hS, hf0⟩ := fits_cons hf
  obtain ⟨now, xs1, hx1, hnow, hf1⟩ := fits_cons hf0
  obtain ⟨bu, xs2, hx2, hbu, hf2⟩ := fits_cons hf1
  obtain ⟨le, xs3, hx3, hle, hf3⟩ := fits_cons hf2
  obtain ⟨mo, xs4, hx4, hmo, hf4⟩ := fits_cons hf3
  obtain ⟨T, xs5, hx5, hT, hf5⟩ := fits_cons hf4
  obtain ⟨c, xs6, hx6, hc, hf6⟩ := fits_cons hf5
  obtain ⟨ar, xs7, hx7, har, hf7⟩ := fits_cons hf6
  obtain ⟨id, xs8, hx8, hid, hf8⟩ := fits_cons hf7
  obtain ⟨st, xs9, hx9, hst, hf9⟩ := fits_cons hf8
  obtain ⟨fr, xs10, hx10, hfr, hf10⟩ := fits_cons hf9
  obtain ⟨mn, xs11, hx11, hmn, hf11⟩ := fits_cons hf10
  obtain ⟨i, xs12, hx12, hi, hf12⟩ := fits_cons hf11
  have hxn := fits_nil hf12
  subst hxn hx12 hx11 hx10 hx9 hx8 hx7 hx6 hx5 hx4 hx3 hx2 hx1 hx0
  simp only [norm_i] at hnow hbu hle hmo hc har hid hst hfr hmn hi
  obtain ⟨ρ, hρ, hd⟩ := solve (F := l.F) 13 defs_LAc (by kernel_rfl) [S, now, bu, le, mo, T, c, ar, id, st, fr, mn, i]
  have hDf := dE_tt (by kernel_rfl) hd
  refine ⟨ρ, hρ, ?_⟩
  have r0 : ρ 0 = S := hρ 0 (by decide)
  have r1 : ρ 1 = now := hρ 1 (by decide)
  have r2 : ρ 2 = bu := hρ 2 (by decide)
  have r3 : ρ 3 = le := hρ 3 (by decide)
  have r4 : ρ 4 = mo := hρ 4 (by decide)
  have r5 : ρ 5 = T := hρ 5 (by decide)
  have r6 : ρ 6 = c := hρ 6 (by decide)
  have r7 : ρ 7 = ar := hρ 7 (by decide)
  have r8 : ρ 8 = id := hρ 8 (by decide)
  have r9 : ρ 9 = st := hρ 9 (by decide)
  have r10 : ρ 10 = fr := hρ 10 (by decide)
  have r11 : ρ 11 = mn := hρ 11 (by decide)
  have r12 : ρ 12 = i := hρ 12 (by decide)
  obtain ⟨v1, hv1, hd1, hn1⟩ := nmd hd 0 rfl
  obtain ⟨v2, hv2, hd2, hn2⟩ := nmd hd 1 rfl
  obtain ⟨v3, hv3, hd3, hn3⟩ := nmd hd 2 rfl
  obtain ⟨v4, hv4, hd4, hn4⟩ := nmd hd 3 rfl
  obtain ⟨v5, hv5, hd5, hn5⟩ := nmd hd 4 rfl
  obtain ⟨v6, hv6, hd6, hn6⟩ := nmd hd 5 rfl
  obtain ⟨v7, hv7, hd7, hn7⟩ := nmd hd 6 rfl
  obtain ⟨v8, hv8, hd8, hn8⟩ := nmd hd 7 rfl
  simp only [norm_i] at hn1 hn3 hn4 hn5 hn6 hn8
  simp (disch := omega) only [norm_i, F14, F18, Ent.nm_fn, r0, r1, hnow, r2, hbu, r3, hle, r4, hmo, r5, r6, hc, r7, har, r8, hid, r9, hst, r10, hfr, r11, hmn, r12, hi, hv1, hn1, hv2, hv3, hn3, hv4, hn4, hv5, hn5, hv6, hn6, hv7, hv8, hn8, ewA, ewL, preC, binI, dvI, shI, cmpB, env, bi, List.headD, List.tail, List.map, Nat.reduceAdd, ewR, ewB, ewM, if_true, if_false, implies_true, forall_const, ne_eq, reduceCtorEq, Int.reduceEq, Int.reduceLT, Int.reduceLE, Int.reduceToNat, Int.reduceAdd, Int.reduceSub, Int.reduceMul, Int.reduceNeg, Int.reduceBEq, Nat.reduceLT, Nat.reduceEqDiff] at hd1 hd2 hd3 hd4 hd5 hd6 hd7 hd8
  have hSS := And.intro (And.intro (And.intro (And.intro (And.intro F9126 F14) (And.intro F18 (And.intro r0 r1))) (And.intro (And.intro hnow r2) (And.intro hbu (And.intro r3 hle)))) (And.intro (And.intro (And.intro r4 hmo) (And.intro r5 (And.intro r6 hc))) (And.intro (And.intro r7 (And.intro har r8)) (And.intro hid (And.intro r9 hst))))) (And.intro (And.intro (And.intro (And.intro r10 hfr) (And.intro r11 (And.intro hmn r12))) (And.intro (And.intro hi hv1) (And.intro hn1 (And.intro hv2 hv3)))) (And.intro (And.intro (And.intro hn3 hv4) (And.intro hn4 (And.intro hv5 hn5))) (And.intro (And.intro hv6 (And.intro hn6 hv7)) (And.intro hv8 (And.intro hn8 hDf)))))
  obtain ⟨hw, p1, p2, p3, p4, p5, p6, p7⟩ := hp
  replace hw : CH S now bu le mo T c ar := hw
  simp only [ewA, ewL, preC, binI, dvI, shI, cmpB, env, bi, List.headD, List.tail, List.map, Nat.reduceAdd] at p1 p2 p3 p4 p5 p6 p7
  obtain ⟨d, B, hv⟩ := hw.1
  have htm := hv.tm
  have hct := hv.ct
  have har := hw.2.2.2
  have y1 : e18.pre [S, now, bu, le, mo, T] := hv.lenOK []
  by_cases hi : i < mn
  · have hm := mul_rng (i := i) (s := st) (by omega) p2
    obtain rfl : now = v1 := (hd1.trans (i64w (by show _ ≤ now; omega) (by show now ≤ _; omega))).symm
    obtain ⟨t, ht⟩ : ∃ t, t = i * st := ⟨_, rfl⟩
    have wt : IntKind.i64.wrap (i * st) = t := by rw [ht]; exact i64w (by omega) (by omega)
    have w1 : IntKind.i64.wrap (id + i) = id + i := i64w (by omega) (by omega)
    have w2 : (id + i).tmod c = (id + i) % c := Int.tmod_eq_emod_of_nonneg (by omega)
    have hr := Int.emod_nonneg (id + i) (show c ≠ 0 by omega)
    have hr2 := Int.emod_lt_of_pos (id + i) (show 0 < c by omega)
    have w3 : IntKind.i64.wrap ((id + i) % c) = (id + i) % c := i64w (by omega) (by omega)
    simp (disch := omega) only [ewA, ewL, preC, binI, dvI, shI, cmpB, env, bi, List.headD, List.tail, List.map, Nat.reduceAdd, ewR, ewB, ewM, if_true, if_false, implies_true, forall_const, ne_eq, reduceCtorEq, Int.reduceEq, Int.reduceLT, Int.reduceLE, Int.reduceToNat, Int.reduceAdd, Int.reduceSub, Int.reduceMul, Int.reduceNeg, Int.reduceBEq, Nat.reduceLT, Nat.reduceEqDiff, wt, w1, w2, w3] at hd2 hd3 hd4 hd5 hd6 hd7 hd8
    obtain ⟨q1, q3, q4, q5⟩ := hw.arm (i := (id + i) % c) (dd := now + 1 + fr + t) (by omega) ⟨hr, hr2⟩ (by
      have hb : mn ≤ 1 → t = 0 := fun h => by rw [ht, show i = 0 by omega]; exact Int.zero_mul _
      omega) ⟨hd2, hd3, hd4, hd5, hd6, hd7, hd8, trivial⟩
    have yp : lbAc.ent.pre [v2, v3, v4, v5, v6, v7, c, ar + 1, id, st, fr, mn, i + 1] := ⟨q1, p1, p2, p3, by show 0 ≤ i + 1; omega, by show i + 1 ≤ mn; omega, p6, by show ar + 1 + (mn - (i + 1)) ≤ _; omega⟩
    have ym : muAc [v2, v3, v4, v5, v6, v7, c, ar + 1, id, st, fr, mn, i + 1] < muAc [S, now, bu, le, mo, T, c, ar, id, st, fr, mn, i] := by show (mn - (i + 1)).toNat < (mn - i).toNat; omega
    obtain ⟨i1, i3, i4, i5, i6⟩ := hφ [v2, v3, v4, v5, v6, v7, c, ar + 1, id, st, fr, mn, i + 1] ⟨rfl, hn3, hn4, hn5, hn6, rfl, hc, i64w (by omega) (by omega), hid, hst, hfr, hmn, i64w (by omega) (by omega), trivial⟩ yp ym
    subst q5
    have y2 : ∀ a b, e14.pre [S, now, bu, le, mo, T, a, b] := fun a b => hv.wx2 a b
    refine ⟨?_, ?_⟩
    · simp (disch := omega) only [ob_LAc, q_LAc_0, ewA, ewL, preC, binI, dvI, shI, cmpB, env, bi, List.headD, List.tail, List.map, Nat.reduceAdd, ewR, ewB, ewM, if_true, if_false, implies_true, forall_const, ne_eq, reduceCtorEq, Int.reduceEq, Int.reduceLT, Int.reduceLE, Int.reduceToNat, Int.reduceAdd, Int.reduceSub, Int.reduceMul, Int.reduceNeg, Int.reduceBEq, Nat.reduceLT, Nat.reduceEqDiff, hSS, hi, wt, w1, w2, w3, y1, y2]
      repeat' (first | (with_reducible apply And.intro) | (with_reducible intro _))
      all_goals first | with_reducible assumption | trivial | omega | (split <;> omega)
    · simp (disch := omega) only [es_LAc, q_LAc_0, ewA, ewL, preC, binI, dvI, shI, cmpB, env, bi, List.headD, List.tail, List.map, Nat.reduceAdd, ewR, ewB, ewM, if_true, if_false, implies_true, forall_const, ne_eq, reduceCtorEq, Int.reduceEq, Int.reduceLT, Int.reduceLE, Int.reduceToNat, Int.reduceAdd, Int.reduceSub, Int.reduceMul, Int.reduceNeg, Int.reduceBEq, Nat.reduceLT, Nat.reduceEqDiff, hSS, hi, wt, w1, w2, w3]
      refine ⟨i1, i3.trans q3, i4.trans q4, Int.le_trans (by show ar ≤ ar + 1; omega) i5, Int.le_trans i6 (by show ar + 1 + (mn - (i + 1)) ≤ ar + (mn - i); omega)⟩
  · refine ⟨?_, ?_⟩
    · simp (disch := omega) only [ob_LAc, q_LAc_0, ewA, ewL, preC, binI, dvI, shI, cmpB, env, bi, List.headD, List.tail, List.map, Nat.reduceAdd, ewR, ewB, ewM, if_true, if_false, implies_true, forall_const, ne_eq, reduceCtorEq, Int.reduceEq, Int.reduceLT, Int.reduceLE, Int.reduceToNat, Int.reduceAdd, Int.reduceSub, Int.reduceMul, Int.reduceNeg, Int.reduceBEq, Nat.reduceLT, Nat.reduceEqDiff, hSS, hi]
    · simp (disch := omega) only [es_LAc, q_LAc_0, ewA, ewL, preC, binI, dvI, shI, cmpB, env, bi, List.headD, List.tail, List.map, Nat.reduceAdd, ewR, ewB, ewM, if_true, if_false, implies_true, forall_const, ne_eq, reduceCtorEq, Int.reduceEq, Int.reduceLT, Int.reduceLE, Int.reduceToNat, Int.reduceAdd, Int.reduceSub, Int.reduceMul, Int.reduceNeg, Int.reduceBEq, Nat.reduceLT, Nat.reduceEqDiff, hSS, hi]
      exact ⟨hw, rfl, rfl, Int.le_refl _, by show ar ≤ ar + (mn - i); omega⟩

theorem cPcok : cPc.OK Try.prog G0 := Ctx.OK.addL (c := ⟨[e18, e25], []⟩) ((Ctx.OK.nil.addF ok25 rfl).addF ok18 rfl) okAc.1 rfl

set_option maxHeartbeats 4000000 in
theorem ok26c : EntryOK Try.prog G0 e26c ∧ PostOK e26c post26c := by
  refine cPcok.nm.entryH mixed ev_26c (by kernel_rfl) _ rfl fun xs hf hp => ?_
  obtain ⟨l, hl, hF⟩ := ctx_P (l0 := cPcn.l)
  show ∃ ρ : Nat → Int, _ ∧ ob_26c.tt cPcn.l.F ρ = true ∧ post26c xs (es_26c.map (E.den cPcn.l.F ρ))
  rw [hl]
  have F25 := FC (k := 100000025) rfl (hF e25.nm (by rfl) (by decide))
  have F9126 := FC (k := 100009126) rfl (hF leAc.nm.ent (by rfl) (by decide))
  replace hf : fits [.x, (.i .i64), (.i .i64), (.i .i64), (.i .i64), .x, (.i .i64), (.i .u8), (.i .i64), (.i .i64), (.i .i64), (.i .i64)] xs := hf
  obtain ⟨S, xs0, hx0, hS, hf0⟩ := fits_cons hf
  obtain ⟨now, xs1, hx1, hnow, hf1⟩ := fits_cons hf0
  obtain ⟨bu, xs2, hx2, hbu, hf2⟩ := fits_cons hf1
  obtain ⟨le, xs3, hx3, hle, hf3⟩ := fits_cons hf2
  obtain ⟨mo, xs4, hx4, hmo, hf4⟩ := fits_cons hf3
  obtain ⟨T, xs5, hx5, hT, hf5⟩ := fits_cons hf4
  obtain ⟨c, xs6, hx6, hc, hf6⟩ := fits_cons hf5
  obtain ⟨ak, xs7, hx7, hak, hf7⟩ := fits_cons hf6
  obtain ⟨ai, xs8, hx8, hai, hf8⟩ := fits_cons hf7
  obtain ⟨ad, xs9, hx9, had, hf9⟩ := fits_cons hf8
  obtain ⟨an, xs10, hx10, han, hf10⟩ := fits_cons hf9
  obtain ⟨ar, xs11, hx11, har, hf11⟩ := fits_cons hf10
  have hxn := fits_nil hf11
  subst hxn hx11 hx10 hx9 hx8 hx7 hx6 hx5 hx4 hx3 hx2 hx1 hx0
  simp only [norm_i] at hnow hbu hle hmo hc hak hai had han har
  obtain ⟨ρ, hρ, hd⟩ := solve (F := l.F) 12 defs_26c (by kernel_rfl) [S, now, bu, le, mo, T, c, ak, ai, ad, an, ar]
  have hDf := dE_tt (by kernel_rfl) hd
  refine ⟨ρ, hρ, ?_⟩
  have r0 : ρ 0 = S := hρ 0 (by decide)
  have r1 : ρ 1 = now := hρ 1 (by decide)
  have r2 : ρ 2 = bu := hρ 2 (by decide)
  have r3 : ρ 3 = le := hρ 3 (by decide)
  have r4 : ρ 4 = mo := hρ 4 (by decide)
  have r5 : ρ 5 = T := hρ 5 (by decide)
  have r6 : ρ 6 = c := hρ 6 (by decide)
  have r7 : ρ 7 = ak := hρ 7 (by decide)
  have r8 : ρ 8 = ai := hρ 8 (by decide)
  have r9 : ρ 9 = ad := hρ 9 (by decide)
  have r10 : ρ 10 = an := hρ 10 (by decide)
  have r11 : ρ 11 = ar := hρ 11 (by decide)
  obtain ⟨v1, hv1, hd1, hn1⟩ := nmd hd 0 rfl
  obtain ⟨v2, hv2, hd2, hn2⟩ := nmd hd 1 rfl
  obtain ⟨v3, hv3, hd3, hn3⟩ := nmd hd 2 rfl
  obtain ⟨v4, hv4, hd4, hn4⟩ := nmd hd 3 rfl
  obtain ⟨v5, hv5, hd5, hn5⟩ := nmd hd 4 rfl
  obtain ⟨v6, hv6, hd6, hn6⟩ := nmd hd 5 rfl
  obtain ⟨v7, hv7, hd7, hn7⟩ := nmd hd 6 rfl
  obtain ⟨v8, hv8, hd8, hn8⟩ := nmd hd 7 rfl
  obtain ⟨v9, hv9, hd9, hn9⟩ := nmd hd 8 rfl
  obtain ⟨v10, hv10, hd10, hn10⟩ := nmd hd 9 rfl
  obtain ⟨v11, hv11, hd11, hn11⟩ := nmd hd 10 rfl
  simp only [norm_i] at hn1 hn2 hn3 hn4 hn6 hn7 hn8 hn9 hn11
  simp (disch := omega) only [norm_i, F25, F9126, Ent.nm_fn, r0, r1, hnow, r2, hbu, r3, hle, r4, hmo, r5, r6, hc, r7, hak, r8, hai, r9, had, r10, han, r11, har, hv1, hn1, hv2, hn2, hv3, hn3, hv4, hn4, hv5, hv6, hn6, hv7, hn7, hv8, hn8, hv9, hn9, hv10, hv11, hn11, ewA, ewL, preC, binI, dvI, shI, cmpB, env, bi, List.headD, List.tail, List.map, Nat.reduceAdd, ewR, ewB, ewM, if_true, if_false, implies_true, forall_const, ne_eq, reduceCtorEq, Int.reduceEq, Int.reduceLT, Int.reduceLE, Int.reduceToNat, Int.reduceAdd, Int.reduceSub, Int.reduceMul, Int.reduceNeg, Int.reduceBEq, Nat.reduceLT, Nat.reduceEqDiff] at hd1 hd2 hd3 hd4 hd5 hd6 hd7 hd8 hd9 hd10 hd11
  have hSS := And.intro (And.intro (And.intro (And.intro (And.intro F25 F9126) (And.intro r0 (And.intro r1 hnow))) (And.intro (And.intro r2 (And.intro hbu r3)) (And.intro hle (And.intro r4 hmo)))) (And.intro (And.intro (And.intro r5 r6) (And.intro hc (And.intro r7 hak))) (And.intro (And.intro r8 (And.intro hai r9)) (And.intro had (And.intro r10 han))))) (And.intro (And.intro (And.intro (And.intro r11 har) (And.intro hv1 (And.intro hn1 hv2))) (And.intro (And.intro hn2 (And.intro hv3 hn3)) (And.intro hv4 (And.intro hn4 hv5)))) (And.intro (And.intro (And.intro hv6 (And.intro hn6 hv7)) (And.intro hn7 (And.intro hv8 hn8))) (And.intro (And.intro hv9 (And.intro hn9 hv10)) (And.intro hv11 (And.intro hn11 hDf)))))
  obtain ⟨hw, p1⟩ := hp
  replace hw : CH S now bu le mo T c ar := hw
  replace p1 : ar + 20 ≤ 1000000 := p1
  obtain ⟨d, B, hv⟩ := hw.1
  have hct := hv.ct
  have har := hw.2.2.2
  have ra := u8r hak
  have f1 : ∀ a b, e25.fn 0 [a, b] = a % b := fun _ _ => rfl
  have y1 : e25.pre [ai, c] := ⟨by show 0 < c; omega, by show c ≤ _; omega⟩
  have y2 : e25.pre [an, 20] := ⟨by show (0 : Int) < 20; decide, by show (20 : Int) ≤ _; decide⟩
  have y3 : e25.pre [ad, 3000] := ⟨by show (0 : Int) < 3000; decide, by show (3000 : Int) ≤ _; decide⟩
  have y4 : e25.pre [ad, 2147483648] := ⟨by show (0 : Int) < 2147483648; decide, by show (2147483648 : Int) ≤ _; decide⟩
  have g1 : 0 ≤ ai % c ∧ ai % c < c := ⟨Int.emod_nonneg ai (by omega), Int.emod_lt_of_pos ai (by omega)⟩
  rw [f1] at hd1 hd2 hd3 hd4
  have e1 : v1 = ai % c := by rw [hd1]; exact i64w (by omega) (by omega)
  have e2 : v2 = an % 20 := by rw [hd2]; exact i64w (by omega) (by omega)
  have e3 : v3 = ad % 3000 := by rw [hd3]; exact i64w (by omega) (by omega)
  have e4 : v4 = ad % 2147483648 := by rw [hd4]; exact i64w (by omega) (by omega)
  have t8 : ak.tmod 8 = ak % 8 := Int.tmod_eq_emod_of_nonneg ra.1
  rw [← e1] at g1
  subst e2 e3 e4
  clear e1 hd1
  by_cases hk : ak % 8 = 3
  · have yA : leAc.ent.pre [S, now, bu, le, mo, T, c, ar, v1, 3, ad % 2147483648, 1, 0] := ⟨hw, g1, by show (0 : Int) ≤ 3 ∧ (3 : Int) ≤ 7; decide, by show 0 ≤ ad % 2147483648 ∧ ad % 2147483648 < 2147483648 ∧ (ad % 2147483648 ≤ 3000 ∨ (1 : Int) ≤ 1); omega, by show (0 : Int) ≤ 0; decide, by show (0 : Int) ≤ 1; decide, by show (1 : Int) ≤ 20; decide, by show ar + (1 - 0) ≤ _; omega⟩
    simp (disch := omega) only [ewA, ewL, preC, binI, dvI, shI, cmpB, env, bi, List.headD, List.tail, List.map, Nat.reduceAdd, ewR, ewB, ewM, if_true, if_false, implies_true, forall_const, ne_eq, reduceCtorEq, Int.reduceEq, Int.reduceLT, Int.reduceLE, Int.reduceToNat, Int.reduceAdd, Int.reduceSub, Int.reduceMul, Int.reduceNeg, Int.reduceBEq, Nat.reduceLT, Nat.reduceEqDiff, t8, hk] at hd5 hd6 hd7 hd8 hd9 hd10 hd11
    obtain ⟨i1, i2, i3, i4, i5⟩ := (PostOK.use (ks := [.x, (.i .i64), (.i .i64), (.i .i64), (.i .i64), .x, (.i .i64), (.i .i64), (.i .i64), (.i .i64), (.i .i64), (.i .i64), (.i .i64)]) (os := [.x, (.i .i64), (.i .i64), (.i .i64), (.i .i64), .x, (.i .i64)]) (vs := [v5, v6, v7, v8, v9, v10, v11]) okAc.2 rfl rfl ⟨hd5, hd6, hd7, hd8, hd9, hd10, hd11, trivial⟩) ⟨rfl, (by first | rfl | assumption | exact i64w (by omega) (by omega) | exact u8w (by omega) (by omega)), (by first | rfl | assumption | exact i64w (by omega) (by omega) | exact u8w (by omega) (by omega)), (by first | rfl | assumption | exact i64w (by omega) (by omega) | exact u8w (by omega) (by omega)), (by first | rfl | assumption | exact i64w (by omega) (by omega) | exact u8w (by omega) (by omega)), rfl, (by first | rfl | assumption | exact i64w (by omega) (by omega) | exact u8w (by omega) (by omega)), (by first | rfl | assumption | exact i64w (by omega) (by omega) | exact u8w (by omega) (by omega)), (by first | rfl | assumption | exact i64w (by omega) (by omega) | exact u8w (by omega) (by omega)), (by first | rfl | assumption | exact i64w (by omega) (by omega) | exact u8w (by omega) (by omega)), (by first | rfl | assumption | exact i64w (by omega) (by omega) | exact u8w (by omega) (by omega)), (by first | rfl | assumption | exact i64w (by omega) (by omega) | exact u8w (by omega) (by omega)), rfl, trivial⟩ yA
    refine ⟨?_, ?_⟩
    · simp (disch := omega) only [ob_26c, q_26c_0, ewA, ewL, preC, binI, dvI, shI, cmpB, env, bi, List.headD, List.tail, List.map, Nat.reduceAdd, ewR, ewB, ewM, if_true, if_false, implies_true, forall_const, ne_eq, reduceCtorEq, Int.reduceEq, Int.reduceLT, Int.reduceLE, Int.reduceToNat, Int.reduceAdd, Int.reduceSub, Int.reduceMul, Int.reduceNeg, Int.reduceBEq, Nat.reduceLT, Nat.reduceEqDiff, hSS, t8, hk, f1, y1, y2, y3, y4]
      repeat' (first | (with_reducible apply And.intro) | (with_reducible intro _))
      all_goals first | with_reducible assumption | trivial | omega | (split <;> omega)
    · simp (disch := omega) only [es_26c, q_26c_0, ewA, ewL, preC, binI, dvI, shI, cmpB, env, bi, List.headD, List.tail, List.map, Nat.reduceAdd, ewR, ewB, ewM, if_true, if_false, implies_true, forall_const, ne_eq, reduceCtorEq, Int.reduceEq, Int.reduceLT, Int.reduceLE, Int.reduceToNat, Int.reduceAdd, Int.reduceSub, Int.reduceMul, Int.reduceNeg, Int.reduceBEq, Nat.reduceLT, Nat.reduceEqDiff, hSS]
      exact ⟨i1, i2, i3, i4, Int.le_trans i5 (by show ar + (1 - 0) ≤ ar + 20; omega)⟩
  · have yA : leAc.ent.pre [S, now, bu, le, mo, T, c, ar, v1, ak % 8, ad % 3000, 1 + an % 20, 0] := ⟨hw, g1, by show 0 ≤ ak % 8 ∧ ak % 8 ≤ 7; omega, by show 0 ≤ ad % 3000 ∧ ad % 3000 < 2147483648 ∧ (ad % 3000 ≤ 3000 ∨ 1 + an % 20 ≤ 1); omega, by show (0 : Int) ≤ 0; decide, by show 0 ≤ 1 + an % 20; omega, by show 1 + an % 20 ≤ 20; omega, by show ar + (1 + an % 20 - 0) ≤ _; omega⟩
    simp (disch := omega) only [ewA, ewL, preC, binI, dvI, shI, cmpB, env, bi, List.headD, List.tail, List.map, Nat.reduceAdd, ewR, ewB, ewM, if_true, if_false, implies_true, forall_const, ne_eq, reduceCtorEq, Int.reduceEq, Int.reduceLT, Int.reduceLE, Int.reduceToNat, Int.reduceAdd, Int.reduceSub, Int.reduceMul, Int.reduceNeg, Int.reduceBEq, Nat.reduceLT, Nat.reduceEqDiff, t8, hk] at hd5 hd6 hd7 hd8 hd9 hd10 hd11
    obtain ⟨i1, i2, i3, i4, i5⟩ := (PostOK.use (ks := [.x, (.i .i64), (.i .i64), (.i .i64), (.i .i64), .x, (.i .i64), (.i .i64), (.i .i64), (.i .i64), (.i .i64), (.i .i64), (.i .i64)]) (os := [.x, (.i .i64), (.i .i64), (.i .i64), (.i .i64), .x, (.i .i64)]) (vs := [v5, v6, v7, v8, v9, v10, v11]) okAc.2 rfl rfl ⟨hd5, hd6, hd7, hd8, hd9, hd10, hd11, trivial⟩) ⟨rfl, (by first | rfl | assumption | exact i64w (by omega) (by omega) | exact u8w (by omega) (by omega)), (by first | rfl | assumption | exact i64w (by omega) (by omega) | exact u8w (by omega) (by omega)), (by first | rfl | assumption | exact i64w (by omega) (by omega) | exact u8w (by omega) (by omega)), (by first | rfl | assumption | exact i64w (by omega) (by omega) | exact u8w (by omega) (by omega)), rfl, (by first | rfl | assumption | exact i64w (by omega) (by omega) | exact u8w (by omega) (by omega)), (by first | rfl | assumption | exact i64w (by omega) (by omega) | exact u8w (by omega) (by omega)), (by first | rfl | assumption | exact i64w (by omega) (by omega) | exact u8w (by omega) (by omega)), (by first | rfl | assumption | exact i64w (by omega) (by omega) | exact u8w (by omega) (by omega)), (by first | rfl | assumption | exact i64w (by omega) (by omega) | exact u8w (by omega) (by omega)), (by first | rfl | assumption | exact i64w (by omega) (by omega) | exact u8w (by omega) (by omega)), rfl, trivial⟩ yA
    refine ⟨?_, ?_⟩
    · simp (disch := omega) only [ob_26c, q_26c_0, ewA, ewL, preC, binI, dvI, shI, cmpB, env, bi, List.headD, List.tail, List.map, Nat.reduceAdd, ewR, ewB, ewM, if_true, if_false, implies_true, forall_const, ne_eq, reduceCtorEq, Int.reduceEq, Int.reduceLT, Int.reduceLE, Int.reduceToNat, Int.reduceAdd, Int.reduceSub, Int.reduceMul, Int.reduceNeg, Int.reduceBEq, Nat.reduceLT, Nat.reduceEqDiff, hSS, t8, hk, f1, y1, y2, y3, y4]
      repeat' (first | (with_reducible apply And.intro) | (with_reducible intro _))
      all_goals first | with_reducible assumption | trivial | omega | (split <;> omega)
    · simp (disch := omega) only [es_26c, q_26c_0, ewA, ewL, preC, binI, dvI, shI, cmpB, env, bi, List.headD, List.tail, List.map, Nat.reduceAdd, ewR, ewB, ewM, if_true, if_false, implies_true, forall_const, ne_eq, reduceCtorEq, Int.reduceEq, Int.reduceLT, Int.reduceLE, Int.reduceToNat, Int.reduceAdd, Int.reduceSub, Int.reduceMul, Int.reduceNeg, Int.reduceBEq, Nat.reduceLT, Nat.reduceEqDiff, hSS]
      exact ⟨i1, i2, i3, i4, Int.le_trans i5 (by show ar + (1 + an % 20 - 0) ≤ ar + 20; omega)⟩

theorem okCt : ItemOK Try.prog G0 4 pCt leCt ∧ PostOK leCt.ent postCt := by
  refine cTok.nm.loopH mixed rfl ⟨_, _, _, Try.func4, rfl, rfl⟩ ev_LCt (by kernel_rfl) _ rfl fun xs hf hp φ hφ => ?_
  obtain ⟨l, hl, hS, hF⟩ := self_H lbCt φ muCt (muCt xs) cTn.l (by decide)
  show ∃ ρ : Nat → Int, _ ∧ ob_LCt.tt (Tabs.F (enH lbCt φ muCt (muCt xs) :: cTn.l)) ρ = true ∧ postCt xs (es_LCt.map (E.den (Tabs.F (enH lbCt φ muCt (muCt xs) :: cTn.l)) ρ))
  rw [hl]
  replace hφ : ∀ ys, fits [.x, (.i .i64), (.i .i64), (.i .i64), (.i .i64), .x, (.i .i64), (.i .i64), (.i .i64), (.i .i64)] ys → lbCt.ent.pre ys → muCt ys < muCt xs → postCt ys (outsE φ ys 0 lbCt.ent.oks) := hφ
  have F9104 := FC (k := 9104) rfl hS
  have F15 := FC (k := 100000015) rfl (hF e15.nm (by rfl) (by decide) (by decide))
  replace hf : fits [.x, (.i .i64), (.i .i64), (.i .i64), (.i .i64), .x, (.i .i64), (.i .i64), (.i .i64), (.i .i64)] xs := hf
  obtain ⟨S, xs0, hx0, hS, hf0⟩ := fits_cons hf
  obtain ⟨now, xs1, hx1, hnow, hf1⟩ := fits_cons hf0
  obtain ⟨bu, xs2, hx2, hbu, hf2⟩ := fits_cons hf1
  obtain ⟨le, xs3, hx3, hle, hf3⟩ := fits_cons hf2
  obtain ⟨mo, xs4, hx4, hmo, hf4⟩ := fits_cons hf3
  obtain ⟨T, xs5, hx5, hT, hf5⟩ := fits_cons hf4
  obtain ⟨bd, xs6, hx6, hbd, hf6⟩ := fits_cons hf5
  obtain ⟨mv, xs7, hx7, hmv, hf7⟩ := fits_cons hf6
  obtain ⟨n, xs8, hx8, hn, hf8⟩ := fits_cons hf7
  obtain ⟨i, xs9, hx9, hi, hf9⟩ := fits_cons hf8
  have hxn := fits_nil hf9
  subst hxn hx9 hx8 hx7 hx6 hx5 hx4 hx3 hx2 hx1 hx0
  simp only [norm_i] at hnow hbu hle hmo hbd hmv hn hi
  obtain ⟨ρ, hρ, hd⟩ := solve (F := l.F) 10 defs_LCt (by kernel_rfl) [S, now, bu, le, mo, T, bd, mv, n, i]
  have hDf := dE_tt (by kernel_rfl) hd
  refine ⟨ρ, hρ, ?_⟩
  have r0 : ρ 0 = S := hρ 0 (by decide)
  have r1 : ρ 1 = now := hρ 1 (by decide)
  have r2 : ρ 2 = bu := hρ 2 (by decide)
  have r3 : ρ 3 = le := hρ 3 (by decide)
  have r4 : ρ 4 = mo := hρ 4 (by decide)
  have r5 : ρ 5 = T := hρ 5 (by decide)
  have r6 : ρ 6 = bd := hρ 6 (by decide)
  have r7 : ρ 7 = mv := hρ 7 (by decide)
  have r8 : ρ 8 = n := hρ 8 (by decide)
  have r9 : ρ 9 = i := hρ 9 (by decide)
  obtain ⟨v1, hv1, hd1, hn1⟩ := nmd hd 0 rfl
  obtain ⟨v2, hv2, hd2, hn2⟩ := nmd hd 1 rfl
  obtain ⟨v3, hv3, hd3, hn3⟩ := nmd hd 2 rfl
  obtain ⟨v4, hv4, hd4, hn4⟩ := nmd hd 3 rfl
  obtain ⟨v5, hv5, hd5, hn5⟩ := nmd hd 4 rfl
  obtain ⟨v6, hv6, hd6, hn6⟩ := nmd hd 5 rfl
  obtain ⟨v7, hv7, hd7, hn7⟩ := nmd hd 6 rfl
  simp only [norm_i] at hn2 hn3 hn4 hn5 hn7
  simp (disch := omega) only [norm_i, F15, Ent.nm_fn, r0, r1, hnow, r2, hbu, r3, hle, r4, hmo, r5, r6, hbd, r7, hmv, r8, hn, r9, hi, hv1, hv2, hn2, hv3, hn3, hv4, hn4, hv5, hn5, hv6, hv7, hn7, ewA, ewL, preC, binI, dvI, shI, cmpB, env, bi, List.headD, List.tail, List.map, Nat.reduceAdd, ewR, ewB, ewM, if_true, if_false, implies_true, forall_const, ne_eq, reduceCtorEq, Int.reduceEq, Int.reduceLT, Int.reduceLE, Int.reduceToNat, Int.reduceAdd, Int.reduceSub, Int.reduceMul, Int.reduceNeg, Int.reduceBEq, Nat.reduceLT, Nat.reduceEqDiff] at hd1 hd2 hd3 hd4 hd5 hd6 hd7
  have hSS := And.intro (And.intro (And.intro (And.intro (And.intro F9104 F15) (And.intro r0 r1)) (And.intro (And.intro hnow r2) (And.intro hbu r3))) (And.intro (And.intro (And.intro hle r4) (And.intro hmo r5)) (And.intro (And.intro r6 hbd) (And.intro r7 hmv)))) (And.intro (And.intro (And.intro (And.intro r8 hn) (And.intro r9 hi)) (And.intro (And.intro hv1 hv2) (And.intro hn2 hv3))) (And.intro (And.intro (And.intro hn3 hv4) (And.intro hn4 hv5)) (And.intro (And.intro hn5 hv6) (And.intro hv7 (And.intro hn7 hDf)))))
  obtain ⟨⟨c, ar, hw⟩, p1, p2, p3, p4, p5⟩ := hp
  replace hw : CH S now bu le mo T c ar := hw
  simp only [ewA, ewL, preC, binI, dvI, shI, cmpB, env, bi, List.headD, List.tail, List.map, Nat.reduceAdd] at p1 p2 p3 p4 p5
  subst p1 p2
  obtain ⟨d, B, hv⟩ := hw.1
  have hbg := hv.bg
  have hl := hw.mos
  have har := hw.2.2.2
  have y1 : e15.pre [S, now, bd, le, mv, T] := hv.wx
  by_cases hi : i < n
  · obtain ⟨q1, q3, q4, q5, q6⟩ := hw.tick ⟨hd1, hd2, hd3, hd4, hd5, hd6, hd7, trivial⟩
    have hl' := q1.mos
    have yp : lbCt.ent.pre [v1, v2, v3, v4, v5, v6, bd, mv + v7, n, i + 1] := ⟨⟨c, ar, q1⟩, q3.symm, q4.symm, by show 0 ≤ i + 1; omega, by show i + 1 ≤ n; omega, p5⟩
    have ym : muCt [v1, v2, v3, v4, v5, v6, bd, mv + v7, n, i + 1] < muCt [S, now, bd, le, mv, T, bd, mv, n, i] := by show (n - (i + 1)).toNat < (n - i).toNat; omega
    obtain ⟨i1, i2, i3⟩ := hφ [v1, v2, v3, v4, v5, v6, bd, mv + v7, n, i + 1] ⟨rfl, hn2, hn3, hn4, hn5, rfl, hbd, i64w (by omega) (by omega), hn, i64w (by omega) (by omega), trivial⟩ yp ym
    refine ⟨?_, ?_⟩
    · simp (disch := omega) only [ob_LCt, q_LCt_0, q_LCt_1, ewA, ewL, preC, binI, dvI, shI, cmpB, env, bi, List.headD, List.tail, List.map, Nat.reduceAdd, ewR, ewB, ewM, if_true, if_false, implies_true, forall_const, ne_eq, reduceCtorEq, Int.reduceEq, Int.reduceLT, Int.reduceLE, Int.reduceToNat, Int.reduceAdd, Int.reduceSub, Int.reduceMul, Int.reduceNeg, Int.reduceBEq, Nat.reduceLT, Nat.reduceEqDiff, hSS, hi, y1]
      repeat' (first | (with_reducible apply And.intro) | (with_reducible intro _))
      all_goals first | with_reducible assumption | trivial | omega | (split <;> omega)
    · simp (disch := omega) only [es_LCt, q_LCt_0, q_LCt_1, ewA, ewL, preC, binI, dvI, shI, cmpB, env, bi, List.headD, List.tail, List.map, Nat.reduceAdd, ewR, ewB, ewM, if_true, if_false, implies_true, forall_const, ne_eq, reduceCtorEq, Int.reduceEq, Int.reduceLT, Int.reduceLE, Int.reduceToNat, Int.reduceAdd, Int.reduceSub, Int.reduceMul, Int.reduceNeg, Int.reduceBEq, Nat.reduceLT, Nat.reduceEqDiff, hSS, hi]
      refine ⟨fun c' ar' h => i1 c' ar' ?_, i2.trans q3, i3⟩
      replace h : CH S now bd le mv T c' ar' := h
      exact (h.tick ⟨hd1, hd2, hd3, hd4, hd5, hd6, hd7, trivial⟩).1
  · refine ⟨?_, ?_⟩
    · simp (disch := omega) only [ob_LCt, q_LCt_0, q_LCt_1, ewA, ewL, preC, binI, dvI, shI, cmpB, env, bi, List.headD, List.tail, List.map, Nat.reduceAdd, ewR, ewB, ewM, if_true, if_false, implies_true, forall_const, ne_eq, reduceCtorEq, Int.reduceEq, Int.reduceLT, Int.reduceLE, Int.reduceToNat, Int.reduceAdd, Int.reduceSub, Int.reduceMul, Int.reduceNeg, Int.reduceBEq, Nat.reduceLT, Nat.reduceEqDiff, hSS, hi]
    · simp (disch := omega) only [es_LCt, q_LCt_0, q_LCt_1, ewA, ewL, preC, binI, dvI, shI, cmpB, env, bi, List.headD, List.tail, List.map, Nat.reduceAdd, ewR, ewB, ewM, if_true, if_false, implies_true, forall_const, ne_eq, reduceCtorEq, Int.reduceEq, Int.reduceLT, Int.reduceLE, Int.reduceToNat, Int.reduceAdd, Int.reduceSub, Int.reduceMul, Int.reduceNeg, Int.reduceBEq, Nat.reduceLT, Nat.reduceEqDiff, hSS, hi]
      exact ⟨fun _ _ h => h, rfl, rfl⟩

theorem cUcok : cUc.OK Try.prog G0 := Ctx.OK.addL (c := ⟨[e24, e25, e26c], []⟩) (((Ctx.OK.nil.addF ok26c.1 rfl).addF ok25 rfl).addF ok24 rfl) okCt.1 rfl

set_option maxHeartbeats 4000000 in
theorem okCo : ItemOK Try.prog G0 4 pCo leCo ∧ PostOK leCo.ent postCo := by
  refine cUcok.nm.loopH mixed rfl ⟨_, _, _, Try.func4, rfl, rfl⟩ ev_LCo (by kernel_rfl) _ rfl fun xs hf hp φ hφ => ?_
  obtain ⟨l, hl, hS, hF⟩ := self_H lbCo φ muCo (muCo xs) cUcn.l (by decide)
  show ∃ ρ : Nat → Int, _ ∧ ob_LCo.tt (Tabs.F (enH lbCo φ muCo (muCo xs) :: cUcn.l)) ρ = true ∧ postCo xs (es_LCo.map (E.den (Tabs.F (enH lbCo φ muCo (muCo xs) :: cUcn.l)) ρ))
  rw [hl]
  replace hφ : ∀ ys, fits [.x, (.i .i64), (.i .i64), (.i .i64), (.i .i64), .x, (.i .i64), (.i .i64), (.i .i64), (.i .i64), .x, (.i .i64), (.i .i64)] ys → lbCo.ent.pre ys → muCo ys < muCo xs → postCo ys (outsE φ ys 0 lbCo.ent.oks) := hφ
  have F9004 := FC (k := 9004) rfl hS
  have F24 := FC (k := 100000024) rfl (hF e24.nm (by rfl) (by decide) (by decide))
  have F25 := FC (k := 100000025) rfl (hF e25.nm (by rfl) (by decide) (by decide))
  have F1026 := FC (k := 100001026) rfl (hF e26c.nm (by rfl) (by decide) (by decide))
  have F9104 := FC (k := 100009104) rfl (hF leCt.nm.ent (by rfl) (by decide) (by decide))
  replace hf : fits [.x, (.i .i64), (.i .i64), (.i .i64), (.i .i64), .x, (.i .i64), (.i .i64), (.i .i64), (.i .i64), .x, (.i .i64), (.i .i64)] xs := hf
  obtain ⟨S, xs0, hx0, hS, hf0⟩ := fits_cons hf
  obtain ⟨now, xs1, hx1, hnow, hf1⟩ := fits_cons hf0
  obtain ⟨bu, xs2, hx2, hbu, hf2⟩ := fits_cons hf1
  obtain ⟨le, xs3, hx3, hle, hf3⟩ := fits_cons hf2
  obtain ⟨mo, xs4, hx4, hmo, hf4⟩ := fits_cons hf3
  obtain ⟨T, xs5, hx5, hT, hf5⟩ := fits_cons hf4
  obtain ⟨c, xs6, hx6, hc, hf6⟩ := fits_cons hf5
  obtain ⟨bd, xs7, hx7, hbd, hf7⟩ := fits_cons hf6
  obtain ⟨ar, xs8, hx8, har, hf8⟩ := fits_cons hf7
  obtain ⟨mv, xs9, hx9, hmv, hf9⟩ := fits_cons hf8
  obtain ⟨A, xs10, hx10, hA, hf10⟩ := fits_cons hf9
  obtain ⟨n, xs11, hx11, hn, hf11⟩ := fits_cons hf10
  obtain ⟨i, xs12, hx12, hi, hf12⟩ := fits_cons hf11
  have hxn := fits_nil hf12
  subst hxn hx12 hx11 hx10 hx9 hx8 hx7 hx6 hx5 hx4 hx3 hx2 hx1 hx0
  simp only [norm_i] at hnow hbu hle hmo hc hbd har hmv hn hi
  obtain ⟨ρ, hρ, hd⟩ := solve (F := l.F) 13 defs_LCo (by kernel_rfl) [S, now, bu, le, mo, T, c, bd, ar, mv, A, n, i]
  have hDf := dE_tt (by kernel_rfl) hd
  refine ⟨ρ, hρ, ?_⟩
  have r0 : ρ 0 = S := hρ 0 (by decide)
  have r1 : ρ 1 = now := hρ 1 (by decide)
  have r2 : ρ 2 = bu := hρ 2 (by decide)
  have r3 : ρ 3 = le := hρ 3 (by decide)
  have r4 : ρ 4 = mo := hρ 4 (by decide)
  have r5 : ρ 5 = T := hρ 5 (by decide)
  have r6 : ρ 6 = c := hρ 6 (by decide)
  have r7 : ρ 7 = bd := hρ 7 (by decide)
  have r8 : ρ 8 = ar := hρ 8 (by decide)
  have r9 : ρ 9 = mv := hρ 9 (by decide)
  have r10 : ρ 10 = A := hρ 10 (by decide)
  have r11 : ρ 11 = n := hρ 11 (by decide)
  have r12 : ρ 12 = i := hρ 12 (by decide)
  obtain ⟨v1, hv1, hd1, hn1⟩ := nmd hd 0 rfl
  obtain ⟨v2, hv2, hd2, hn2⟩ := nmd hd 1 rfl
  obtain ⟨v3, hv3, hd3, hn3⟩ := nmd hd 2 rfl
  obtain ⟨v4, hv4, hd4, hn4⟩ := nmd hd 3 rfl
  obtain ⟨v5, hv5, hd5, hn5⟩ := nmd hd 4 rfl
  obtain ⟨v6, hv6, hd6, hn6⟩ := nmd hd 5 rfl
  obtain ⟨v7, hv7, hd7, hn7⟩ := nmd hd 6 rfl
  obtain ⟨v8, hv8, hd8, hn8⟩ := nmd hd 7 rfl
  obtain ⟨v9, hv9, hd9, hn9⟩ := nmd hd 8 rfl
  obtain ⟨v10, hv10, hd10, hn10⟩ := nmd hd 9 rfl
  obtain ⟨v11, hv11, hd11, hn11⟩ := nmd hd 10 rfl
  obtain ⟨v12, hv12, hd12, hn12⟩ := nmd hd 11 rfl
  obtain ⟨v13, hv13, hd13, hn13⟩ := nmd hd 12 rfl
  obtain ⟨v14, hv14, hd14, hn14⟩ := nmd hd 13 rfl
  obtain ⟨v15, hv15, hd15, hn15⟩ := nmd hd 14 rfl
  obtain ⟨v16, hv16, hd16, hn16⟩ := nmd hd 15 rfl
  obtain ⟨v17, hv17, hd17, hn17⟩ := nmd hd 16 rfl
  obtain ⟨v18, hv18, hd18, hn18⟩ := nmd hd 17 rfl
  obtain ⟨v19, hv19, hd19, hn19⟩ := nmd hd 18 rfl
  obtain ⟨v20, hv20, hd20, hn20⟩ := nmd hd 19 rfl
  obtain ⟨v21, hv21, hd21, hn21⟩ := nmd hd 20 rfl
  obtain ⟨v22, hv22, hd22, hn22⟩ := nmd hd 21 rfl
  obtain ⟨v23, hv23, hd23, hn23⟩ := nmd hd 22 rfl
  simp only [norm_i] at hn1 hn3 hn4 hn5 hn6 hn8 hn9 hn11 hn12 hn13 hn14 hn16 hn18 hn19 hn20 hn21 hn23
  simp (disch := omega) only [norm_i, F1026, F24, F25, F9104, Ent.nm_fn, r0, r1, hnow, r2, hbu, r3, hle, r4, hmo, r5, r6, hc, r7, hbd, r8, har, r9, hmv, r10, r11, hn, r12, hi, hv1, hn1, hv2, hv3, hn3, hv4, hn4, hv5, hn5, hv6, hn6, hv7, hv8, hn8, hv9, hn9, hv10, hv11, hn11, hv12, hn12, hv13, hn13, hv14, hn14, hv15, hv16, hn16, hv17, hv18, hn18, hv19, hn19, hv20, hn20, hv21, hn21, hv22, hv23, hn23, ewA, ewL, preC, binI, dvI, shI, cmpB, env, bi, List.headD, List.tail, List.map, Nat.reduceAdd, ewR, ewB, ewM, if_true, if_false, implies_true, forall_const, ne_eq, reduceCtorEq, Int.reduceEq, Int.reduceLT, Int.reduceLE, Int.reduceToNat, Int.reduceAdd, Int.reduceSub, Int.reduceMul, Int.reduceNeg, Int.reduceBEq, Nat.reduceLT, Nat.reduceEqDiff] at hd1 hd2 hd3 hd4 hd5 hd6 hd7 hd8 hd9 hd10 hd11 hd12 hd13 hd14 hd15 hd16 hd17 hd18 hd19 hd20 hd21 hd22 hd23
  have hSS := And.intro (And.intro (And.intro (And.intro (And.intro (And.intro F9004 F24) (And.intro F25 F1026)) (And.intro (And.intro F9104 r0) (And.intro r1 hnow))) (And.intro (And.intro (And.intro r2 hbu) (And.intro r3 hle)) (And.intro (And.intro r4 hmo) (And.intro r5 (And.intro r6 hc))))) (And.intro (And.intro (And.intro (And.intro r7 hbd) (And.intro r8 har)) (And.intro (And.intro r9 hmv) (And.intro r10 r11))) (And.intro (And.intro (And.intro hn r12) (And.intro hi hv1)) (And.intro (And.intro hn1 hv2) (And.intro hv3 (And.intro hn3 hv4)))))) (And.intro (And.intro (And.intro (And.intro (And.intro hn4 hv5) (And.intro hn5 hv6)) (And.intro (And.intro hn6 hv7) (And.intro hv8 hn8))) (And.intro (And.intro (And.intro hv9 hn9) (And.intro hv10 hv11)) (And.intro (And.intro hn11 hv12) (And.intro hn12 (And.intro hv13 hn13))))) (And.intro (And.intro (And.intro (And.intro hv14 hn14) (And.intro hv15 hv16)) (And.intro (And.intro hn16 hv17) (And.intro hv18 (And.intro hn18 hv19)))) (And.intro (And.intro (And.intro hn19 hv20) (And.intro hn20 hv21)) (And.intro (And.intro hn21 hv22) (And.intro hv23 (And.intro hn23 hDf))))))
  obtain ⟨hw, p7, p8, p1, p2, p3, p4, p5, p6⟩ := hp
  replace hw : CH S now bu le mo T c ar := hw
  replace p1 : rowsOK actK (dc A) := p1
  simp only [ewA, ewL, preC, binI, dvI, shI, cmpB, env, bi, List.headD, List.tail, List.map, Nat.reduceAdd] at p2 p3 p4 p5 p6 p7 p8
  subst p7 p8
  obtain ⟨d, B, hv⟩ := hw.1
  have hbg := hv.bg
  have hct := hv.ct
  have har := hw.2.2.2
  by_cases hi : i < n
  · have fin : ∀ S' now' bu' le' mo' T' ar' mv' : Int, IntKind.i64.wrap now' = now' → IntKind.i64.wrap bu' = bu' → IntKind.i64.wrap le' = le' → IntKind.i64.wrap mo' = mo' → CH S' now' bu' le' mo' T' c ar' → bu' = bd → mv' = mo' → ar' ≤ ar + 20 →
        (lbCo.ent.pre [S', now', bu', le', mo', T', c, bd, ar', mv', A, n, i + 1] ∧ muCo [S', now', bu', le', mo', T', c, bd, ar', mv', A, n, i + 1] < muCo [S, now, bd, le, mv, T, c, bd, ar, mv, A, n, i]) ∧ postCo [S, now, bd, le, mv, T, c, bd, ar, mv, A, n, i] (outsE φ [S', now', bu', le', mo', T', c, bd, ar', mv', A, n, i + 1] 0 lbCo.ent.oks) := by
      intro S' now' bu' le' mo' T' ar' mv' w1 w2 w3 w4 hE h1 h2 h3
      have har' := hE.2.2.2
      have yp : lbCo.ent.pre [S', now', bu', le', mo', T', c, bd, ar', mv', A, n, i + 1] := ⟨hE, h1.symm, h2, p1, p2, by show ar' + 20 * (n - (i + 1)) ≤ _; omega, by show 0 ≤ i + 1; omega, by show i + 1 ≤ n; omega, p6⟩
      have ym : muCo [S', now', bu', le', mo', T', c, bd, ar', mv', A, n, i + 1] < muCo [S, now, bd, le, mv, T, c, bd, ar, mv, A, n, i] := by show (n - (i + 1)).toNat < (n - i).toNat; omega
      have := hφ [S', now', bu', le', mo', T', c, bd, ar', mv', A, n, i + 1] ⟨rfl, w1, w2, w3, w4, rfl, hc, hbd, i64w (by omega) (by omega), by rw [h2]; exact w4, rfl, hn, i64w (by omega) (by omega), trivial⟩ yp ym
      exact ⟨⟨yp, ym⟩, this⟩
    obtain ⟨r, er, hr, _⟩ := row_at p1 p4 (by omega)
    obtain ⟨k, r1, rfl, hk, hr⟩ := fits_cons hr
    obtain ⟨a, r2, rfl, ha, hr⟩ := fits_cons hr
    obtain ⟨b, r3, rfl, hb, hr⟩ := fits_cons hr
    obtain ⟨m, r4, rfl, hm, hr⟩ := fits_cons hr
    obtain rfl := fits_nil hr
    simp only [norm_i] at hk ha hb hm
    have rk := u8r hk
    have t8 : k.tmod 8 = k % 8 := Int.tmod_eq_emod_of_nonneg rk.1
    have f1 : ∀ a b, e25.fn 0 [a, b] = a % b := fun _ _ => rfl
    have y1 : e25.pre [a, c] := ⟨by show 0 < c; omega, by show c ≤ _; omega⟩
    have y2 : e25.pre [m, 300] := ⟨by show (0 : Int) < 300; decide, by show (300 : Int) ≤ _; decide⟩
    have g1 : 0 ≤ a % c ∧ a % c < c := ⟨Int.emod_nonneg a (by omega), Int.emod_lt_of_pos a (by omega)⟩
    have wa : IntKind.i64.wrap (a % c) = a % c := i64w (by omega) (by omega)
    have w5 : IntKind.i64.wrap (1 + m % 300) = 1 + m % 300 := i64w (by omega) (by omega)
    simp (disch := omega) only [ewA, ewL, preC, binI, dvI, shI, cmpB, env, bi, List.headD, List.tail, List.map, Nat.reduceAdd, ewR, ewB, ewM, if_true, if_false, implies_true, forall_const, ne_eq, reduceCtorEq, Int.reduceEq, Int.reduceLT, Int.reduceLE, Int.reduceToNat, Int.reduceAdd, Int.reduceSub, Int.reduceMul, Int.reduceNeg, Int.reduceBEq, Nat.reduceLT, Nat.reduceEqDiff, er, ha, hb, hm, hk, f1, wa] at hd1 hd2 hd3 hd4 hd5 hd6 hd7 hd8 hd9 hd10 hd11 hd12 hd13 hd14 hd15 hd16 hd17 hd18 hd19 hd20 hd21 hd22 hd23
    subst hd1 hd9
    simp only [w5] at hd10 hd11 hd12 hd13 hd14 hd15 hd16
    have y4 : e24.pre [S, now, bd, le, mv, T, a % c] := hv.wx1 _
    have y6 : e26c.pre [S, now, bd, le, mv, T, c, k, a, b, m, ar] := ⟨hw, by show ar + 20 ≤ _; omega⟩
    have y7 : leCt.ent.pre [S, now, bd, le, mv, T, bd, mv, 1 + m % 300, 0] := ⟨⟨c, ar, hw⟩, rfl, rfl, by show (0 : Int) ≤ 0; decide, by show 0 ≤ 1 + m % 300; omega, by show 1 + m % 300 ≤ 300; omega⟩
    by_cases c1 : k % 8 = 4 ∨ k % 8 = 6 ∨ k % 8 = 7
    · obtain ⟨q1, q3, q4⟩ := hw.can g1 ⟨hd2, hd3, hd4, hd5, hd6, hd7, hd8, trivial⟩
      obtain ⟨⟨f2, f3⟩, f4⟩ := fin _ _ _ _ _ _ ar mv hn3 hn4 hn5 hn6 q1 q3 q4.symm (by omega)
      refine ⟨?_, ?_⟩
      · rcases c1 with c1 | c1 | c1
        all_goals simp (disch := omega) only [ob_LCo, q_LCo_0, q_LCo_1, q_LCo_2, q_LCo_3, q_LCo_4, q_LCo_5, q_LCo_6, q_LCo_7, q_LCo_8, q_LCo_9, q_LCo_10, q_LCo_11, q_LCo_12, q_LCo_13, q_LCo_14, ewA, ewL, preC, binI, dvI, shI, cmpB, env, bi, List.headD, List.tail, List.map, Nat.reduceAdd, ewR, ewB, ewM, if_true, if_false, implies_true, forall_const, ne_eq, reduceCtorEq, Int.reduceEq, Int.reduceLT, Int.reduceLE, Int.reduceToNat, Int.reduceAdd, Int.reduceSub, Int.reduceMul, Int.reduceNeg, Int.reduceBEq, Nat.reduceLT, Nat.reduceEqDiff, hSS, hi, er, hk, ha, hb, hm, t8, c1, f1, wa, y1, y4, f2, f3]
        repeat' (first | (with_reducible apply And.intro) | (with_reducible intro _))
        all_goals first | with_reducible assumption | trivial | omega | (split <;> omega)
      · rcases c1 with c1 | c1 | c1
        all_goals simp (disch := omega) only [es_LCo, q_LCo_0, q_LCo_1, q_LCo_2, q_LCo_3, q_LCo_4, q_LCo_5, q_LCo_6, q_LCo_7, q_LCo_8, q_LCo_9, q_LCo_10, q_LCo_11, q_LCo_12, q_LCo_13, q_LCo_14, ewA, ewL, preC, binI, dvI, shI, cmpB, env, bi, List.headD, List.tail, List.map, Nat.reduceAdd, ewR, ewB, ewM, if_true, if_false, implies_true, forall_const, ne_eq, reduceCtorEq, Int.reduceEq, Int.reduceLT, Int.reduceLE, Int.reduceToNat, Int.reduceAdd, Int.reduceSub, Int.reduceMul, Int.reduceNeg, Int.reduceBEq, Nat.reduceLT, Nat.reduceEqDiff, hSS, hi, er, hk, t8, c1]
        all_goals exact f4
    · by_cases c2 : k % 8 = 5
      · obtain ⟨q1, q2, q3⟩ := (PostOK.use (ks := [.x, (.i .i64), (.i .i64), (.i .i64), (.i .i64), .x, (.i .i64), (.i .i64), (.i .i64), (.i .i64)]) (os := [.x, (.i .i64), (.i .i64), (.i .i64), (.i .i64), .x, (.i .i64)]) (vs := [v10, v11, v12, v13, v14, v15, v16]) okCt.2 rfl rfl ⟨hd10, hd11, hd12, hd13, hd14, hd15, hd16, trivial⟩) ⟨rfl, hnow, hbd, hle, hmv, rfl, hbd, hmv, w5, rfl, trivial⟩ y7
        replace q1 : ∀ c ar, CH S now bd le mv T c ar → CH v10 v11 v12 v13 v14 v15 c ar := q1
        replace q2 : v12 = bd := q2
        replace q3 : v16 = v14 := q3
        obtain ⟨⟨f2, f3⟩, f4⟩ := fin _ _ _ _ _ _ ar v16 hn11 hn12 hn13 hn14 (q1 _ _ hw) q2 q3 (by omega)
        refine ⟨?_, ?_⟩
        · simp (disch := omega) only [ob_LCo, q_LCo_0, q_LCo_1, q_LCo_2, q_LCo_3, q_LCo_4, q_LCo_5, q_LCo_6, q_LCo_7, q_LCo_8, q_LCo_9, q_LCo_10, q_LCo_11, q_LCo_12, q_LCo_13, q_LCo_14, ewA, ewL, preC, binI, dvI, shI, cmpB, env, bi, List.headD, List.tail, List.map, Nat.reduceAdd, ewR, ewB, ewM, if_true, if_false, implies_true, forall_const, ne_eq, reduceCtorEq, Int.reduceEq, Int.reduceLT, Int.reduceLE, Int.reduceToNat, Int.reduceAdd, Int.reduceSub, Int.reduceMul, Int.reduceNeg, Int.reduceBEq, Nat.reduceLT, Nat.reduceEqDiff, hSS, hi, er, hk, ha, hb, hm, t8, c2, f1, w5, y2, y7, f2, f3]
          repeat' (first | (with_reducible apply And.intro) | (with_reducible intro _))
          all_goals first | with_reducible assumption | trivial | omega | (split <;> omega)
        · simp (disch := omega) only [es_LCo, q_LCo_0, q_LCo_1, q_LCo_2, q_LCo_3, q_LCo_4, q_LCo_5, q_LCo_6, q_LCo_7, q_LCo_8, q_LCo_9, q_LCo_10, q_LCo_11, q_LCo_12, q_LCo_13, q_LCo_14, ewA, ewL, preC, binI, dvI, shI, cmpB, env, bi, List.headD, List.tail, List.map, Nat.reduceAdd, ewR, ewB, ewM, if_true, if_false, implies_true, forall_const, ne_eq, reduceCtorEq, Int.reduceEq, Int.reduceLT, Int.reduceLE, Int.reduceToNat, Int.reduceAdd, Int.reduceSub, Int.reduceMul, Int.reduceNeg, Int.reduceBEq, Nat.reduceLT, Nat.reduceEqDiff, hSS, hi, er, hk, t8, c2]
          exact f4
      · obtain ⟨q1, q2, q3, q4, q5⟩ := (PostOK.use (ks := [.x, (.i .i64), (.i .i64), (.i .i64), (.i .i64), .x, (.i .i64), (.i .u8), (.i .i64), (.i .i64), (.i .i64), (.i .i64)]) (os := [.x, (.i .i64), (.i .i64), (.i .i64), (.i .i64), .x, (.i .i64)]) (vs := [v17, v18, v19, v20, v21, v22, v23]) ok26c.2 rfl rfl ⟨hd17, hd18, hd19, hd20, hd21, hd22, hd23, trivial⟩) ⟨rfl, hnow, hbd, hle, hmv, rfl, hc, hk, ha, hb, hm, i64w (by omega) (by omega), trivial⟩ y6
        have c4 : ¬ k % 8 = 4 := fun h => c1 (Or.inl h)
        have c6 : ¬ k % 8 = 6 := fun h => c1 (Or.inr (Or.inl h))
        have c7 : ¬ k % 8 = 7 := fun h => c1 (Or.inr (Or.inr h))
        replace q1 : CH v17 v18 v19 v20 v21 v22 c v23 := q1
        replace q2 : v19 = bd := q2
        replace q3 : v21 = mv := q3
        replace q5 : v23 ≤ ar + 20 := q5
        obtain ⟨⟨f2, f3⟩, f4⟩ := fin _ _ _ _ _ _ v23 mv hn18 hn19 hn20 hn21 q1 q2 q3.symm q5
        refine ⟨?_, ?_⟩
        · simp (disch := omega) only [ob_LCo, q_LCo_0, q_LCo_1, q_LCo_2, q_LCo_3, q_LCo_4, q_LCo_5, q_LCo_6, q_LCo_7, q_LCo_8, q_LCo_9, q_LCo_10, q_LCo_11, q_LCo_12, q_LCo_13, q_LCo_14, ewA, ewL, preC, binI, dvI, shI, cmpB, env, bi, List.headD, List.tail, List.map, Nat.reduceAdd, ewR, ewB, ewM, if_true, if_false, implies_true, forall_const, ne_eq, reduceCtorEq, Int.reduceEq, Int.reduceLT, Int.reduceLE, Int.reduceToNat, Int.reduceAdd, Int.reduceSub, Int.reduceMul, Int.reduceNeg, Int.reduceBEq, Nat.reduceLT, Nat.reduceEqDiff, hSS, hi, er, hk, ha, hb, hm, t8, c4, c6, c7, c2, f1, y6, f2, f3]
          repeat' (first | (with_reducible apply And.intro) | (with_reducible intro _))
          all_goals first | with_reducible assumption | trivial | omega | (split <;> omega)
        · simp (disch := omega) only [es_LCo, q_LCo_0, q_LCo_1, q_LCo_2, q_LCo_3, q_LCo_4, q_LCo_5, q_LCo_6, q_LCo_7, q_LCo_8, q_LCo_9, q_LCo_10, q_LCo_11, q_LCo_12, q_LCo_13, q_LCo_14, ewA, ewL, preC, binI, dvI, shI, cmpB, env, bi, List.headD, List.tail, List.map, Nat.reduceAdd, ewR, ewB, ewM, if_true, if_false, implies_true, forall_const, ne_eq, reduceCtorEq, Int.reduceEq, Int.reduceLT, Int.reduceLE, Int.reduceToNat, Int.reduceAdd, Int.reduceSub, Int.reduceMul, Int.reduceNeg, Int.reduceBEq, Nat.reduceLT, Nat.reduceEqDiff, hSS, hi, er, hk, t8, c4, c6, c7, c2]
          exact f4
  · refine ⟨?_, ?_⟩
    · simp (disch := omega) only [ob_LCo, q_LCo_0, q_LCo_1, q_LCo_2, q_LCo_3, q_LCo_4, q_LCo_5, q_LCo_6, q_LCo_7, q_LCo_8, q_LCo_9, q_LCo_10, q_LCo_11, q_LCo_12, q_LCo_13, q_LCo_14, ewA, ewL, preC, binI, dvI, shI, cmpB, env, bi, List.headD, List.tail, List.map, Nat.reduceAdd, ewR, ewB, ewM, if_true, if_false, implies_true, forall_const, ne_eq, reduceCtorEq, Int.reduceEq, Int.reduceLT, Int.reduceLE, Int.reduceToNat, Int.reduceAdd, Int.reduceSub, Int.reduceMul, Int.reduceNeg, Int.reduceBEq, Nat.reduceLT, Nat.reduceEqDiff, hSS, hi]
    · simp (disch := omega) only [es_LCo, q_LCo_0, q_LCo_1, q_LCo_2, q_LCo_3, q_LCo_4, q_LCo_5, q_LCo_6, q_LCo_7, q_LCo_8, q_LCo_9, q_LCo_10, q_LCo_11, q_LCo_12, q_LCo_13, q_LCo_14, ewA, ewL, preC, binI, dvI, shI, cmpB, env, bi, List.headD, List.tail, List.map, Nat.reduceAdd, ewR, ewB, ewM, if_true, if_false, implies_true, forall_const, ne_eq, reduceCtorEq, Int.reduceEq, Int.reduceLT, Int.reduceLE, Int.reduceToNat, Int.reduceAdd, Int.reduceSub, Int.reduceMul, Int.reduceNeg, Int.reduceBEq, Nat.reduceLT, Nat.reduceEqDiff, hSS, hi]
      exact ⟨hw, rfl⟩

theorem cX4ok : cX4.OK Try.prog G0 := Ctx.OK.addL (c := ⟨[e22, e23, e21], []⟩) (((Ctx.OK.nil.addF ok21 rfl).addF ok23 rfl).addF ok22 rfl) okCo.1 rfl

set_option maxHeartbeats 4000000 in
theorem ok4 : EntryOK Try.prog G0 e4 ∧ PostOK e4 postN := by
  refine cX4ok.nm.entryH mixed ev_4 (by kernel_rfl) _ rfl fun xs hf hp => ?_
  obtain ⟨l, hl, hF⟩ := ctx_P (l0 := cX4n.l)
  show ∃ ρ : Nat → Int, _ ∧ ob_4.tt cX4n.l.F ρ = true ∧ postN xs (es_4.map (E.den cX4n.l.F ρ))
  rw [hl]
  have F21 := FC (k := 100000021) rfl (hF e21.nm (by rfl) (by decide))
  have F22 := FC (k := 100000022) rfl (hF e22.nm (by rfl) (by decide))
  have F23 := FC (k := 100000023) rfl (hF e23.nm (by rfl) (by decide))
  have F9004 := FC (k := 100009004) rfl (hF leCo.nm.ent (by rfl) (by decide))
  replace hf : fits [(.i .u8), (.i .u8), (.i .i64), (.i .i64), .x] xs := hf
  obtain ⟨nb, xs0, hx0, hnb, hf0⟩ := fits_cons hf
  obtain ⟨ns, xs1, hx1, hns, hf1⟩ := fits_cons hf0
  obtain ⟨nn, xs2, hx2, hnn, hf2⟩ := fits_cons hf1
  obtain ⟨nc, xs3, hx3, hnc, hf3⟩ := fits_cons hf2
  obtain ⟨A, xs4, hx4, hA, hf4⟩ := fits_cons hf3
  have hxn := fits_nil hf4
  subst hxn hx4 hx3 hx2 hx1 hx0
  simp only [norm_i] at hnb hns hnn hnc
  obtain ⟨ρ, hρ, hd⟩ := solve (F := l.F) 5 defs_4 (by kernel_rfl) [nb, ns, nn, nc, A]
  have hDf := dE_tt (by kernel_rfl) hd
  refine ⟨ρ, hρ, ?_⟩
  have r0 : ρ 0 = nb := hρ 0 (by decide)
  have r1 : ρ 1 = ns := hρ 1 (by decide)
  have r2 : ρ 2 = nn := hρ 2 (by decide)
  have r3 : ρ 3 = nc := hρ 3 (by decide)
  have r4 : ρ 4 = A := hρ 4 (by decide)
  obtain ⟨v1, hv1, hd1, hn1⟩ := nmd hd 0 rfl
  obtain ⟨v2, hv2, hd2, hn2⟩ := nmd hd 1 rfl
  obtain ⟨v3, hv3, hd3, hn3⟩ := nmd hd 2 rfl
  obtain ⟨v4, hv4, hd4, hn4⟩ := nmd hd 3 rfl
  obtain ⟨v5, hv5, hd5, hn5⟩ := nmd hd 4 rfl
  obtain ⟨v6, hv6, hd6, hn6⟩ := nmd hd 5 rfl
  obtain ⟨v7, hv7, hd7, hn7⟩ := nmd hd 6 rfl
  obtain ⟨v8, hv8, hd8, hn8⟩ := nmd hd 7 rfl
  obtain ⟨v9, hv9, hd9, hn9⟩ := nmd hd 8 rfl
  obtain ⟨v10, hv10, hd10, hn10⟩ := nmd hd 9 rfl
  obtain ⟨v11, hv11, hd11, hn11⟩ := nmd hd 10 rfl
  obtain ⟨v12, hv12, hd12, hn12⟩ := nmd hd 11 rfl
  obtain ⟨v13, hv13, hd13, hn13⟩ := nmd hd 12 rfl
  obtain ⟨v14, hv14, hd14, hn14⟩ := nmd hd 13 rfl
  obtain ⟨v15, hv15, hd15, hn15⟩ := nmd hd 14 rfl
  obtain ⟨v16, hv16, hd16, hn16⟩ := nmd hd 15 rfl
  obtain ⟨v17, hv17, hd17, hn17⟩ := nmd hd 16 rfl
  simp only [norm_i] at hn2 hn3 hn4 hn5 hn7 hn8 hn10 hn11 hn12 hn13 hn15 hn16 hn17
  simp (disch := omega) only [norm_i, F21, F23, F9004, Ent.nm_fn, r0, hnb, r1, hns, r2, hnn, r3, hnc, r4, hv1, hv2, hn2, hv3, hn3, hv4, hn4, hv5, hn5, hv6, hv7, hn7, hv8, hn8, hv9, hv10, hn10, hv11, hn11, hv12, hn12, hv13, hn13, hv14, hv15, hn15, hv16, hn16, hv17, hn17, ewA, ewL, preC, binI, dvI, shI, cmpB, env, bi, List.headD, List.tail, List.map, Nat.reduceAdd, ewR, ewB, ewM, if_true, if_false, implies_true, forall_const, ne_eq, reduceCtorEq, Int.reduceEq, Int.reduceLT, Int.reduceLE, Int.reduceToNat, Int.reduceAdd, Int.reduceSub, Int.reduceMul, Int.reduceNeg, Int.reduceBEq, Nat.reduceLT, Nat.reduceEqDiff] at hd1 hd2 hd3 hd4 hd5 hd6 hd7 hd8 hd9 hd10 hd11 hd12 hd13 hd14 hd15 hd16 hd17
  have hSS := And.intro (And.intro (And.intro (And.intro (And.intro F21 F22) (And.intro F23 (And.intro F9004 r0))) (And.intro (And.intro hnb (And.intro r1 hns)) (And.intro r2 (And.intro hnn r3)))) (And.intro (And.intro (And.intro hnc r4) (And.intro hv1 (And.intro hv2 hn2))) (And.intro (And.intro hv3 (And.intro hn3 hv4)) (And.intro hn4 (And.intro hv5 hn5))))) (And.intro (And.intro (And.intro (And.intro hv6 hv7) (And.intro hn7 (And.intro hv8 hn8))) (And.intro (And.intro hv9 (And.intro hv10 hn10)) (And.intro hv11 (And.intro hn11 hv12)))) (And.intro (And.intro (And.intro hn12 hv13) (And.intro hn13 (And.intro hv14 hv15))) (And.intro (And.intro hn15 (And.intro hv16 hn16)) (And.intro hv17 (And.intro hn17 hDf)))))
  obtain ⟨p1, p2⟩ := hp
  replace p1 : rowsOK actK (dc A) := p1
  replace p2 : ((dc A).length : Int) ≤ 9223372036854775807 := p2
  have rs := u8r hns
  have y22 : e22.pre [] := trivial
  have y23 : e23.pre [nb, ns, nn, nc] := trivial
  obtain ⟨q1, q2, q3, q4, q5, q6, q7, q8, q9, q10, q11⟩ := WV.fresh rs.1 ⟨hd1, hd2, hd3, hd4, hd5, hd6, hd7, hd8, trivial⟩
  have wA : IntKind.i64.wrap (((dc A).length : Nat) : Int) = (((dc A).length : Nat) : Int) := i64w (by omega) (by omega)
  obtain ⟨t, ht⟩ : ∃ t : Nat, (if 30 < (((dc A).length : Nat) : Int) then 30 else (((dc A).length : Nat) : Int)).toNat = t := ⟨_, rfl⟩
  have ht2 : t ≤ 30 ∧ t ≤ (dc A).length := by rw [← ht]; split <;> omega
  obtain ⟨A', hA⟩ : ∃ A', A' = cd (List.take t (dc A)) := ⟨_, rfl⟩
  have dA : dc A' = List.take t (dc A) := by rw [hA]; exact dc_cd _
  have lA : (List.take t (dc A)).length = t := by rw [List.length_take]; omega
  have wt : IntKind.i64.wrap ((t : Nat) : Int) = (t : Int) := i64w (by omega) (by omega)
  simp only [wA, ht, ← hA, lA, wt] at hd9 hd10 hd11 hd12 hd13 hd14 hd15 hd16
  have hz : ∀ y, gC (dc v6) y 0 = 0 := fun y => by rw [q8]; exact gC_Tn v7 y 0
  have yp : leCo.ent.pre [v1, v2, v3, v4, v5, v6, v7, v8, 0, 0, A', (t : Int), 0] := by
    refine ⟨⟨⟨_, _, q1⟩, fun y => by rw [show gC (dc (env [v1, v2, v3, v4, v5, v6, v7, v8, 0, 0, A', (t : Int), 0] 5)) y 0 = 0 from hz y]; decide, ?_, by show (0 : Int) ≤ 0; decide, by show (0 : Int) ≤ _; decide⟩, q7.trans q3.symm, q5.symm, ?_, ?_, by show 0 + 20 * ((t : Int) - 0) ≤ _; omega, by show (0 : Int) ≤ 0; decide, by show (0 : Int) ≤ (t : Int); omega, by show (t : Int) ≤ 30; omega⟩
    · show v5 + lvSum (dc v6) v7.toNat ≤ 3 * 0
      rw [lvSum_zero hz]; omega
    · show rowsOK actK (dc A')
      rw [dA]; exact fun r hr => p1 r (List.mem_of_mem_take hr)
    · show (t : Int) = ((dc A').length : Int)
      rw [dA, lA]
  have q := (PostOK.use (ks := [.x, (.i .i64), (.i .i64), (.i .i64), (.i .i64), .x, (.i .i64), (.i .i64), (.i .i64), (.i .i64), .x, (.i .i64), (.i .i64)]) (os := [.x, (.i .i64), (.i .i64), (.i .i64), (.i .i64), .x, (.i .i64), (.i .i64)]) (vs := [v9, v10, v11, v12, v13, v14, v15, v16]) okCo.2 rfl rfl ⟨hd9, hd10, hd11, hd12, hd13, hd14, hd15, hd16, trivial⟩) ⟨rfl, hn2, hn3, hn4, hn5, rfl, hn7, hn8, rfl, rfl, rfl, wt, rfl, trivial⟩ yp
  obtain ⟨i1, i2⟩ := q
  replace i1 : CH v9 v10 v11 v12 v13 v14 v7 v15 := i1
  replace i2 : v16 = v13 := i2
  have hm := i1.mos
  have har := i1.2.2.2
  obtain ⟨d, B, hv⟩ := i1.1
  have y21 : e21.pre [v9, v10, v11, v12, v13, v14] := hv.lenOK []
  have z : v13 = v17 := (hd17.trans (i64w (by show _ ≤ v13; omega) (by show v13 ≤ _; omega))).symm
  subst z
  refine ⟨?_, trivial⟩
  simp (disch := omega) only [ob_4, q_4_0, q_4_1, ewA, ewL, preC, binI, dvI, shI, cmpB, env, bi, List.headD, List.tail, List.map, Nat.reduceAdd, ewR, ewB, ewM, if_true, if_false, implies_true, forall_const, ne_eq, reduceCtorEq, Int.reduceEq, Int.reduceLT, Int.reduceLE, Int.reduceToNat, Int.reduceAdd, Int.reduceSub, Int.reduceMul, Int.reduceNeg, Int.reduceBEq, Nat.reduceLT, Nat.reduceEqDiff, hSS, wA, ht, ← hA, dA, lA, wt]
  repeat' (first | (with_reducible apply And.intro) | (with_reducible intro _))
  all_goals first | with_reducible assumption | trivial | omega | (split <;> omega)

end
end Go.Proofs.Ytfhheeoejncfgaa.Ew
