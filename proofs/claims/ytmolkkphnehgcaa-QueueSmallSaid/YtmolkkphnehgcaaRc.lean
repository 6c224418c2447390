/- Layer 17: QueueTells. -/
import Derived.Test.YtmolkkphnehgcaaRb
set_option linter.unusedVariables false
set_option linter.unusedSimpArgs false
namespace Go.Proofs.Ytmolkkphnehgcaa.Ew
open Go Go.RowKit
noncomputable section
--P Try.prog G0

/-- One act, with both. -/
def stX (s r : List Int) : List Int := [fn37 0 (s ++ r), fn37 1 (s ++ r), fn37 2 (s ++ r), fn37 3 (s ++ r), fn37 4 (s ++ r)]
def runX : RL → List Int → List Int
  | [], s => s
  | r :: l, s => runX l (stX s r)
def p26 : List Bool := [true,true,true,true,true,true,false,true,false]
def fnL26 (j : Nat) (xs : List Int) : Int := env (runX ((dc (env xs 6)).drop (env xs 8).toNat) [env xs 0, env xs 1, env xs 2, env xs 3, env xs 4]) j
def preL26 (xs : List Int) : Prop := RX xs ∧ env xs 5 = 1 ∧ rowsOK actK (dc (env xs 6)) ∧ env xs 7 = ((dc (env xs 6)).length : Int) ∧ 0 ≤ env xs 8 ∧ env xs 8 ≤ env xs 7 ∧ env xs 7 ≤ 60
def mu26 (xs : List Int) : Nat := (env xs 7 - env xs 8).toNat
def le26 : LEnt := ⟨⟨9026, 999999, [.lt .b 0, qo, o66, bS, acts, i64, i64], [qob, { j := 3, ty := 66, cs := [i64, ls78] }], [5], .tup [.lt .b 1], fnL26, preL26⟩, [4, 5, 7, 9, 40, 41, 42], [9], [4, 11] ++ (List.range 31).map (· + 42), [.ex 0], 73, [40]⟩
def preA26 (xs : List Int) : Prop := rowsOK actK (dc (env xs 1)) ∧ ((dc (env xs 1)).length : Int) ≤ 60
def e26a : Ent := ⟨1260, 26, [i64, acts], [], [0], .lt .b 1, fun _ _ => 0, fun xs => preA26 xs ∧ timB (env xs 0)⟩
def e26b : Ent := ⟨1261, 26, [i64, acts], [], [0], .lt .b 1, fun _ _ => 0, fun xs => preA26 xs ∧ ¬ timB (env xs 0)⟩
def e26 : Ent := ⟨26, 26, [i64, acts], [], [0], .lt .b 1, fun _ _ => 0, preA26⟩
def e21n : Ent := ⟨121, 21, [.nul .nP, i64, i64], [], [], .lt (.i .i64) 1, fun _ _ => 0, fun _ => True⟩
def preA9 (xs : List Int) : Prop := rowsOK actK (dc (env xs 1)) ∧ ((dc (env xs 1)).length : Int) ≤ 9223372036854775807
def e9 : Ent := ⟨9, 9, [i64, acts], [], [0], .lt .b 1, fun _ _ => 0, preA9⟩
def cV0 : Ctx := ⟨[e36, e37, e15], []⟩
def cV1 : Ctx := ⟨[e20, e35a, e36, e15], [(26, p26, le26)]⟩
def cV2 : Ctx := ⟨[e20b, e35b, e21n], []⟩
def cV3 : Ctx := ⟨[e26, e12], []⟩

def ob_L26 : E := (.and (.and (.or (.not (.cmp .lss (.var (.i .i64) 8) (.var (.i .i64) 7))) (.and (.and (.cmp .geq (.var (.i .i64) 8) (.lit (.i .i64) 0)) (.cmp .lss (.var (.i .i64) 8) (.app (.i .i64) 0 0 [(.var .x 6)]))) (.or (.not (.var .b 5)) (.and (.app .b 37 1000000 [(.var (.i .i64) 0), (.var .x 1), (.var .x 2), (.var (.i .i64) 3), (.var .x 4), (.app (.i .u8) 0 1 [(.var .x 6), (.var (.i .i64) 8), (.lit .x 0)]), (.app (.i .i64) 0 1 [(.var .x 6), (.var (.i .i64) 8), (.lit .x 1)]), (.app (.i .i64) 0 1 [(.var .x 6), (.var (.i .i64) 8), (.lit .x 2)])]) (.and (.app .b 36 1000000 [(.app (.i .i64) 37 0 [(.var (.i .i64) 0), (.var .x 1), (.var .x 2), (.var (.i .i64) 3), (.var .x 4), (.app (.i .u8) 0 1 [(.var .x 6), (.var (.i .i64) 8), (.lit .x 0)]), (.app (.i .i64) 0 1 [(.var .x 6), (.var (.i .i64) 8), (.lit .x 1)]), (.app (.i .i64) 0 1 [(.var .x 6), (.var (.i .i64) 8), (.lit .x 2)])]), (.app .x 37 1 [(.var (.i .i64) 0), (.var .x 1), (.var .x 2), (.var (.i .i64) 3), (.var .x 4), (.app (.i .u8) 0 1 [(.var .x 6), (.var (.i .i64) 8), (.lit .x 0)]), (.app (.i .i64) 0 1 [(.var .x 6), (.var (.i .i64) 8), (.lit .x 1)]), (.app (.i .i64) 0 1 [(.var .x 6), (.var (.i .i64) 8), (.lit .x 2)])]), (.app .x 37 2 [(.var (.i .i64) 0), (.var .x 1), (.var .x 2), (.var (.i .i64) 3), (.var .x 4), (.app (.i .u8) 0 1 [(.var .x 6), (.var (.i .i64) 8), (.lit .x 0)]), (.app (.i .i64) 0 1 [(.var .x 6), (.var (.i .i64) 8), (.lit .x 1)]), (.app (.i .i64) 0 1 [(.var .x 6), (.var (.i .i64) 8), (.lit .x 2)])]), (.app (.i .i64) 37 3 [(.var (.i .i64) 0), (.var .x 1), (.var .x 2), (.var (.i .i64) 3), (.var .x 4), (.app (.i .u8) 0 1 [(.var .x 6), (.var (.i .i64) 8), (.lit .x 0)]), (.app (.i .i64) 0 1 [(.var .x 6), (.var (.i .i64) 8), (.lit .x 1)]), (.app (.i .i64) 0 1 [(.var .x 6), (.var (.i .i64) 8), (.lit .x 2)])]), (.app .x 37 4 [(.var (.i .i64) 0), (.var .x 1), (.var .x 2), (.var (.i .i64) 3), (.var .x 4), (.app (.i .u8) 0 1 [(.var .x 6), (.var (.i .i64) 8), (.lit .x 0)]), (.app (.i .i64) 0 1 [(.var .x 6), (.var (.i .i64) 8), (.lit .x 1)]), (.app (.i .i64) 0 1 [(.var .x 6), (.var (.i .i64) 8), (.lit .x 2)])]), (.app (.i .i64) 0 1 [(.var .x 6), (.var (.i .i64) 8), (.lit .x 1)])]) (.and (.app .b 15 1000000 [(.app (.i .i64) 0 1 [(.var .x 6), (.var (.i .i64) 8), (.lit .x 1)]), (.lit (.i .i64) 16)]) (.app .b 36 1000000 [(.app (.i .i64) 37 0 [(.var (.i .i64) 0), (.var .x 1), (.var .x 2), (.var (.i .i64) 3), (.var .x 4), (.app (.i .u8) 0 1 [(.var .x 6), (.var (.i .i64) 8), (.lit .x 0)]), (.app (.i .i64) 0 1 [(.var .x 6), (.var (.i .i64) 8), (.lit .x 1)]), (.app (.i .i64) 0 1 [(.var .x 6), (.var (.i .i64) 8), (.lit .x 2)])]), (.app .x 37 1 [(.var (.i .i64) 0), (.var .x 1), (.var .x 2), (.var (.i .i64) 3), (.var .x 4), (.app (.i .u8) 0 1 [(.var .x 6), (.var (.i .i64) 8), (.lit .x 0)]), (.app (.i .i64) 0 1 [(.var .x 6), (.var (.i .i64) 8), (.lit .x 1)]), (.app (.i .i64) 0 1 [(.var .x 6), (.var (.i .i64) 8), (.lit .x 2)])]), (.app .x 37 2 [(.var (.i .i64) 0), (.var .x 1), (.var .x 2), (.var (.i .i64) 3), (.var .x 4), (.app (.i .u8) 0 1 [(.var .x 6), (.var (.i .i64) 8), (.lit .x 0)]), (.app (.i .i64) 0 1 [(.var .x 6), (.var (.i .i64) 8), (.lit .x 1)]), (.app (.i .i64) 0 1 [(.var .x 6), (.var (.i .i64) 8), (.lit .x 2)])]), (.app (.i .i64) 37 3 [(.var (.i .i64) 0), (.var .x 1), (.var .x 2), (.var (.i .i64) 3), (.var .x 4), (.app (.i .u8) 0 1 [(.var .x 6), (.var (.i .i64) 8), (.lit .x 0)]), (.app (.i .i64) 0 1 [(.var .x 6), (.var (.i .i64) 8), (.lit .x 1)]), (.app (.i .i64) 0 1 [(.var .x 6), (.var (.i .i64) 8), (.lit .x 2)])]), (.app .x 37 4 [(.var (.i .i64) 0), (.var .x 1), (.var .x 2), (.var (.i .i64) 3), (.var .x 4), (.app (.i .u8) 0 1 [(.var .x 6), (.var (.i .i64) 8), (.lit .x 0)]), (.app (.i .i64) 0 1 [(.var .x 6), (.var (.i .i64) 8), (.lit .x 1)]), (.app (.i .i64) 0 1 [(.var .x 6), (.var (.i .i64) 8), (.lit .x 2)])]), (.app (.i .i64) 15 0 [(.app (.i .i64) 0 1 [(.var .x 6), (.var (.i .i64) 8), (.lit .x 1)]), (.lit (.i .i64) 16)])]))))))) (.or (.not (.and (.cmp .lss (.var (.i .i64) 8) (.var (.i .i64) 7)) (.var .b 5))) (.app .b 9026 1000000 [(.app (.i .i64) 37 0 [(.var (.i .i64) 0), (.var .x 1), (.var .x 2), (.var (.i .i64) 3), (.var .x 4), (.app (.i .u8) 0 1 [(.var .x 6), (.var (.i .i64) 8), (.lit .x 0)]), (.app (.i .i64) 0 1 [(.var .x 6), (.var (.i .i64) 8), (.lit .x 1)]), (.app (.i .i64) 0 1 [(.var .x 6), (.var (.i .i64) 8), (.lit .x 2)])]), (.app .x 37 1 [(.var (.i .i64) 0), (.var .x 1), (.var .x 2), (.var (.i .i64) 3), (.var .x 4), (.app (.i .u8) 0 1 [(.var .x 6), (.var (.i .i64) 8), (.lit .x 0)]), (.app (.i .i64) 0 1 [(.var .x 6), (.var (.i .i64) 8), (.lit .x 1)]), (.app (.i .i64) 0 1 [(.var .x 6), (.var (.i .i64) 8), (.lit .x 2)])]), (.app .x 37 2 [(.var (.i .i64) 0), (.var .x 1), (.var .x 2), (.var (.i .i64) 3), (.var .x 4), (.app (.i .u8) 0 1 [(.var .x 6), (.var (.i .i64) 8), (.lit .x 0)]), (.app (.i .i64) 0 1 [(.var .x 6), (.var (.i .i64) 8), (.lit .x 1)]), (.app (.i .i64) 0 1 [(.var .x 6), (.var (.i .i64) 8), (.lit .x 2)])]), (.app (.i .i64) 37 3 [(.var (.i .i64) 0), (.var .x 1), (.var .x 2), (.var (.i .i64) 3), (.var .x 4), (.app (.i .u8) 0 1 [(.var .x 6), (.var (.i .i64) 8), (.lit .x 0)]), (.app (.i .i64) 0 1 [(.var .x 6), (.var (.i .i64) 8), (.lit .x 1)]), (.app (.i .i64) 0 1 [(.var .x 6), (.var (.i .i64) 8), (.lit .x 2)])]), (.app .x 37 4 [(.var (.i .i64) 0), (.var .x 1), (.var .x 2), (.var (.i .i64) 3), (.var .x 4), (.app (.i .u8) 0 1 [(.var .x 6), (.var (.i .i64) 8), (.lit .x 0)]), (.app (.i .i64) 0 1 [(.var .x 6), (.var (.i .i64) 8), (.lit .x 1)]), (.app (.i .i64) 0 1 [(.var .x 6), (.var (.i .i64) 8), (.lit .x 2)])]), (.lit .b 1), (.var .x 6), (.var (.i .i64) 7), (.bin .add .i64 (.var (.i .i64) 8) (.lit (.i .i64) 1))]))) (.and (.or (.not (.or (.not (.cmp .lss (.var (.i .i64) 8) (.var (.i .i64) 7))) (.and (.cmp .lss (.var (.i .i64) 8) (.var (.i .i64) 7)) (.var .b 5)))) (.and (.or (.cmp .lss (.var (.i .i64) 8) (.var (.i .i64) 7)) (.var .b 5)) (.and (.ite (.not (.cmp .lss (.var (.i .i64) 8) (.var (.i .i64) 7))) (.not (.cmp .lss (.var (.i .i64) 8) (.var (.i .i64) 7))) (.cmp .lss (.var (.i .i64) 8) (.var (.i .i64) 7))) (.and (.ite (.not (.cmp .lss (.var (.i .i64) 8) (.var (.i .i64) 7))) (.not (.cmp .lss (.var (.i .i64) 8) (.var (.i .i64) 7))) (.cmp .lss (.var (.i .i64) 8) (.var (.i .i64) 7))) (.or (.not (.cmp .lss (.var (.i .i64) 8) (.var (.i .i64) 7))) (.cmp .lss (.var (.i .i64) 8) (.var (.i .i64) 7))))))) (.not (.and (.cmp .lss (.var (.i .i64) 8) (.var (.i .i64) 7)) (.not (.var .b 5))))))
def es_L26 : List E := [(.ite (.not (.cmp .lss (.var (.i .i64) 8) (.var (.i .i64) 7))) (.var (.i .i64) 0) (.app (.i .i64) 9026 0 [(.app (.i .i64) 37 0 [(.var (.i .i64) 0), (.var .x 1), (.var .x 2), (.var (.i .i64) 3), (.var .x 4), (.app (.i .u8) 0 1 [(.var .x 6), (.var (.i .i64) 8), (.lit .x 0)]), (.app (.i .i64) 0 1 [(.var .x 6), (.var (.i .i64) 8), (.lit .x 1)]), (.app (.i .i64) 0 1 [(.var .x 6), (.var (.i .i64) 8), (.lit .x 2)])]), (.app .x 37 1 [(.var (.i .i64) 0), (.var .x 1), (.var .x 2), (.var (.i .i64) 3), (.var .x 4), (.app (.i .u8) 0 1 [(.var .x 6), (.var (.i .i64) 8), (.lit .x 0)]), (.app (.i .i64) 0 1 [(.var .x 6), (.var (.i .i64) 8), (.lit .x 1)]), (.app (.i .i64) 0 1 [(.var .x 6), (.var (.i .i64) 8), (.lit .x 2)])]), (.app .x 37 2 [(.var (.i .i64) 0), (.var .x 1), (.var .x 2), (.var (.i .i64) 3), (.var .x 4), (.app (.i .u8) 0 1 [(.var .x 6), (.var (.i .i64) 8), (.lit .x 0)]), (.app (.i .i64) 0 1 [(.var .x 6), (.var (.i .i64) 8), (.lit .x 1)]), (.app (.i .i64) 0 1 [(.var .x 6), (.var (.i .i64) 8), (.lit .x 2)])]), (.app (.i .i64) 37 3 [(.var (.i .i64) 0), (.var .x 1), (.var .x 2), (.var (.i .i64) 3), (.var .x 4), (.app (.i .u8) 0 1 [(.var .x 6), (.var (.i .i64) 8), (.lit .x 0)]), (.app (.i .i64) 0 1 [(.var .x 6), (.var (.i .i64) 8), (.lit .x 1)]), (.app (.i .i64) 0 1 [(.var .x 6), (.var (.i .i64) 8), (.lit .x 2)])]), (.app .x 37 4 [(.var (.i .i64) 0), (.var .x 1), (.var .x 2), (.var (.i .i64) 3), (.var .x 4), (.app (.i .u8) 0 1 [(.var .x 6), (.var (.i .i64) 8), (.lit .x 0)]), (.app (.i .i64) 0 1 [(.var .x 6), (.var (.i .i64) 8), (.lit .x 1)]), (.app (.i .i64) 0 1 [(.var .x 6), (.var (.i .i64) 8), (.lit .x 2)])]), (.lit .b 1), (.var .x 6), (.var (.i .i64) 7), (.bin .add .i64 (.var (.i .i64) 8) (.lit (.i .i64) 1))])), (.ite (.not (.cmp .lss (.var (.i .i64) 8) (.var (.i .i64) 7))) (.var .x 1) (.app .x 9026 1 [(.app (.i .i64) 37 0 [(.var (.i .i64) 0), (.var .x 1), (.var .x 2), (.var (.i .i64) 3), (.var .x 4), (.app (.i .u8) 0 1 [(.var .x 6), (.var (.i .i64) 8), (.lit .x 0)]), (.app (.i .i64) 0 1 [(.var .x 6), (.var (.i .i64) 8), (.lit .x 1)]), (.app (.i .i64) 0 1 [(.var .x 6), (.var (.i .i64) 8), (.lit .x 2)])]), (.app .x 37 1 [(.var (.i .i64) 0), (.var .x 1), (.var .x 2), (.var (.i .i64) 3), (.var .x 4), (.app (.i .u8) 0 1 [(.var .x 6), (.var (.i .i64) 8), (.lit .x 0)]), (.app (.i .i64) 0 1 [(.var .x 6), (.var (.i .i64) 8), (.lit .x 1)]), (.app (.i .i64) 0 1 [(.var .x 6), (.var (.i .i64) 8), (.lit .x 2)])]), (.app .x 37 2 [(.var (.i .i64) 0), (.var .x 1), (.var .x 2), (.var (.i .i64) 3), (.var .x 4), (.app (.i .u8) 0 1 [(.var .x 6), (.var (.i .i64) 8), (.lit .x 0)]), (.app (.i .i64) 0 1 [(.var .x 6), (.var (.i .i64) 8), (.lit .x 1)]), (.app (.i .i64) 0 1 [(.var .x 6), (.var (.i .i64) 8), (.lit .x 2)])]), (.app (.i .i64) 37 3 [(.var (.i .i64) 0), (.var .x 1), (.var .x 2), (.var (.i .i64) 3), (.var .x 4), (.app (.i .u8) 0 1 [(.var .x 6), (.var (.i .i64) 8), (.lit .x 0)]), (.app (.i .i64) 0 1 [(.var .x 6), (.var (.i .i64) 8), (.lit .x 1)]), (.app (.i .i64) 0 1 [(.var .x 6), (.var (.i .i64) 8), (.lit .x 2)])]), (.app .x 37 4 [(.var (.i .i64) 0), (.var .x 1), (.var .x 2), (.var (.i .i64) 3), (.var .x 4), (.app (.i .u8) 0 1 [(.var .x 6), (.var (.i .i64) 8), (.lit .x 0)]), (.app (.i .i64) 0 1 [(.var .x 6), (.var (.i .i64) 8), (.lit .x 1)]), (.app (.i .i64) 0 1 [(.var .x 6), (.var (.i .i64) 8), (.lit .x 2)])]), (.lit .b 1), (.var .x 6), (.var (.i .i64) 7), (.bin .add .i64 (.var (.i .i64) 8) (.lit (.i .i64) 1))])), (.ite (.not (.cmp .lss (.var (.i .i64) 8) (.var (.i .i64) 7))) (.var .x 2) (.app .x 9026 2 [(.app (.i .i64) 37 0 [(.var (.i .i64) 0), (.var .x 1), (.var .x 2), (.var (.i .i64) 3), (.var .x 4), (.app (.i .u8) 0 1 [(.var .x 6), (.var (.i .i64) 8), (.lit .x 0)]), (.app (.i .i64) 0 1 [(.var .x 6), (.var (.i .i64) 8), (.lit .x 1)]), (.app (.i .i64) 0 1 [(.var .x 6), (.var (.i .i64) 8), (.lit .x 2)])]), (.app .x 37 1 [(.var (.i .i64) 0), (.var .x 1), (.var .x 2), (.var (.i .i64) 3), (.var .x 4), (.app (.i .u8) 0 1 [(.var .x 6), (.var (.i .i64) 8), (.lit .x 0)]), (.app (.i .i64) 0 1 [(.var .x 6), (.var (.i .i64) 8), (.lit .x 1)]), (.app (.i .i64) 0 1 [(.var .x 6), (.var (.i .i64) 8), (.lit .x 2)])]), (.app .x 37 2 [(.var (.i .i64) 0), (.var .x 1), (.var .x 2), (.var (.i .i64) 3), (.var .x 4), (.app (.i .u8) 0 1 [(.var .x 6), (.var (.i .i64) 8), (.lit .x 0)]), (.app (.i .i64) 0 1 [(.var .x 6), (.var (.i .i64) 8), (.lit .x 1)]), (.app (.i .i64) 0 1 [(.var .x 6), (.var (.i .i64) 8), (.lit .x 2)])]), (.app (.i .i64) 37 3 [(.var (.i .i64) 0), (.var .x 1), (.var .x 2), (.var (.i .i64) 3), (.var .x 4), (.app (.i .u8) 0 1 [(.var .x 6), (.var (.i .i64) 8), (.lit .x 0)]), (.app (.i .i64) 0 1 [(.var .x 6), (.var (.i .i64) 8), (.lit .x 1)]), (.app (.i .i64) 0 1 [(.var .x 6), (.var (.i .i64) 8), (.lit .x 2)])]), (.app .x 37 4 [(.var (.i .i64) 0), (.var .x 1), (.var .x 2), (.var (.i .i64) 3), (.var .x 4), (.app (.i .u8) 0 1 [(.var .x 6), (.var (.i .i64) 8), (.lit .x 0)]), (.app (.i .i64) 0 1 [(.var .x 6), (.var (.i .i64) 8), (.lit .x 1)]), (.app (.i .i64) 0 1 [(.var .x 6), (.var (.i .i64) 8), (.lit .x 2)])]), (.lit .b 1), (.var .x 6), (.var (.i .i64) 7), (.bin .add .i64 (.var (.i .i64) 8) (.lit (.i .i64) 1))])), (.ite (.not (.cmp .lss (.var (.i .i64) 8) (.var (.i .i64) 7))) (.var (.i .i64) 3) (.app (.i .i64) 9026 3 [(.app (.i .i64) 37 0 [(.var (.i .i64) 0), (.var .x 1), (.var .x 2), (.var (.i .i64) 3), (.var .x 4), (.app (.i .u8) 0 1 [(.var .x 6), (.var (.i .i64) 8), (.lit .x 0)]), (.app (.i .i64) 0 1 [(.var .x 6), (.var (.i .i64) 8), (.lit .x 1)]), (.app (.i .i64) 0 1 [(.var .x 6), (.var (.i .i64) 8), (.lit .x 2)])]), (.app .x 37 1 [(.var (.i .i64) 0), (.var .x 1), (.var .x 2), (.var (.i .i64) 3), (.var .x 4), (.app (.i .u8) 0 1 [(.var .x 6), (.var (.i .i64) 8), (.lit .x 0)]), (.app (.i .i64) 0 1 [(.var .x 6), (.var (.i .i64) 8), (.lit .x 1)]), (.app (.i .i64) 0 1 [(.var .x 6), (.var (.i .i64) 8), (.lit .x 2)])]), (.app .x 37 2 [(.var (.i .i64) 0), (.var .x 1), (.var .x 2), (.var (.i .i64) 3), (.var .x 4), (.app (.i .u8) 0 1 [(.var .x 6), (.var (.i .i64) 8), (.lit .x 0)]), (.app (.i .i64) 0 1 [(.var .x 6), (.var (.i .i64) 8), (.lit .x 1)]), (.app (.i .i64) 0 1 [(.var .x 6), (.var (.i .i64) 8), (.lit .x 2)])]), (.app (.i .i64) 37 3 [(.var (.i .i64) 0), (.var .x 1), (.var .x 2), (.var (.i .i64) 3), (.var .x 4), (.app (.i .u8) 0 1 [(.var .x 6), (.var (.i .i64) 8), (.lit .x 0)]), (.app (.i .i64) 0 1 [(.var .x 6), (.var (.i .i64) 8), (.lit .x 1)]), (.app (.i .i64) 0 1 [(.var .x 6), (.var (.i .i64) 8), (.lit .x 2)])]), (.app .x 37 4 [(.var (.i .i64) 0), (.var .x 1), (.var .x 2), (.var (.i .i64) 3), (.var .x 4), (.app (.i .u8) 0 1 [(.var .x 6), (.var (.i .i64) 8), (.lit .x 0)]), (.app (.i .i64) 0 1 [(.var .x 6), (.var (.i .i64) 8), (.lit .x 1)]), (.app (.i .i64) 0 1 [(.var .x 6), (.var (.i .i64) 8), (.lit .x 2)])]), (.lit .b 1), (.var .x 6), (.var (.i .i64) 7), (.bin .add .i64 (.var (.i .i64) 8) (.lit (.i .i64) 1))])), (.ite (.not (.cmp .lss (.var (.i .i64) 8) (.var (.i .i64) 7))) (.var .x 4) (.app .x 9026 4 [(.app (.i .i64) 37 0 [(.var (.i .i64) 0), (.var .x 1), (.var .x 2), (.var (.i .i64) 3), (.var .x 4), (.app (.i .u8) 0 1 [(.var .x 6), (.var (.i .i64) 8), (.lit .x 0)]), (.app (.i .i64) 0 1 [(.var .x 6), (.var (.i .i64) 8), (.lit .x 1)]), (.app (.i .i64) 0 1 [(.var .x 6), (.var (.i .i64) 8), (.lit .x 2)])]), (.app .x 37 1 [(.var (.i .i64) 0), (.var .x 1), (.var .x 2), (.var (.i .i64) 3), (.var .x 4), (.app (.i .u8) 0 1 [(.var .x 6), (.var (.i .i64) 8), (.lit .x 0)]), (.app (.i .i64) 0 1 [(.var .x 6), (.var (.i .i64) 8), (.lit .x 1)]), (.app (.i .i64) 0 1 [(.var .x 6), (.var (.i .i64) 8), (.lit .x 2)])]), (.app .x 37 2 [(.var (.i .i64) 0), (.var .x 1), (.var .x 2), (.var (.i .i64) 3), (.var .x 4), (.app (.i .u8) 0 1 [(.var .x 6), (.var (.i .i64) 8), (.lit .x 0)]), (.app (.i .i64) 0 1 [(.var .x 6), (.var (.i .i64) 8), (.lit .x 1)]), (.app (.i .i64) 0 1 [(.var .x 6), (.var (.i .i64) 8), (.lit .x 2)])]), (.app (.i .i64) 37 3 [(.var (.i .i64) 0), (.var .x 1), (.var .x 2), (.var (.i .i64) 3), (.var .x 4), (.app (.i .u8) 0 1 [(.var .x 6), (.var (.i .i64) 8), (.lit .x 0)]), (.app (.i .i64) 0 1 [(.var .x 6), (.var (.i .i64) 8), (.lit .x 1)]), (.app (.i .i64) 0 1 [(.var .x 6), (.var (.i .i64) 8), (.lit .x 2)])]), (.app .x 37 4 [(.var (.i .i64) 0), (.var .x 1), (.var .x 2), (.var (.i .i64) 3), (.var .x 4), (.app (.i .u8) 0 1 [(.var .x 6), (.var (.i .i64) 8), (.lit .x 0)]), (.app (.i .i64) 0 1 [(.var .x 6), (.var (.i .i64) 8), (.lit .x 1)]), (.app (.i .i64) 0 1 [(.var .x 6), (.var (.i .i64) 8), (.lit .x 2)])]), (.lit .b 1), (.var .x 6), (.var (.i .i64) 7), (.bin .add .i64 (.var (.i .i64) 8) (.lit (.i .i64) 1))]))]
theorem ev_L26 : evL Try.prog G0 (tabOf cV0.fs) (evFn Try.prog G0 (tabOf cV0.fs) (ltOf cV0.ls) 40 10) 40 (subL cV0.ls 26 p26) le26 (bodyAt Try.prog 26 p26) = some (ob_L26, es_L26) := by kernel_rfl

def ob_26a : E := (.and (.app .b 20 1000000 [(.var (.i .i64) 0)]) (.and (.app .b 1351 1000000 [(.var (.i .i64) 0)]) (.and (.app .b 36 1000000 [(.app (.i .i64) 20 0 [(.var (.i .i64) 0)]), (.app .x 20 1 [(.var (.i .i64) 0)]), (.app .x 20 2 [(.var (.i .i64) 0)]), (.app (.i .i64) 1351 0 [(.var (.i .i64) 0)]), (.app .x 1351 1 [(.var (.i .i64) 0)]), (.lit (.i .i64) 0)]) (.app .b 9026 1000000 [(.app (.i .i64) 20 0 [(.var (.i .i64) 0)]), (.app .x 20 1 [(.var (.i .i64) 0)]), (.app .x 20 2 [(.var (.i .i64) 0)]), (.app (.i .i64) 1351 0 [(.var (.i .i64) 0)]), (.app .x 1351 1 [(.var (.i .i64) 0)]), (.lit .b 1), (.var .x 1), (.app (.i .i64) 0 0 [(.var .x 1)]), (.lit (.i .i64) 0)]))))
def es_26a : List E := []
theorem ev_26a : evE Try.prog G0 (tabOf cV1.fs) (ltOf cV1.ls) 40 10 e26a = some (ob_26a, es_26a) := by kernel_rfl

def ob_21n : E := (.lit .b 1)
def es_21n : List E := []
theorem ev_21n : evE Try.prog G0 (tabOf cR0.fs) (ltOf cR0.ls) 40 10 e21n = some (ob_21n, es_21n) := by kernel_rfl

def ob_26b : E := (.and (.app .b 200 1000000 [(.var (.i .i64) 0)]) (.and (.app .b 1352 1000000 [(.var (.i .i64) 0)]) (.app .b 121 1000000 [(.lit (.i .i64) 1), (.lit (.i .i64) 2)])))
def es_26b : List E := []
theorem ev_26b : evE Try.prog G0 (tabOf cV2.fs) (ltOf cV2.ls) 40 10 e26b = some (ob_26b, es_26b) := by kernel_rfl

def ob_9 : E := (.and (.or (.cmp .gtr (.app (.i .i64) 0 0 [(.var .x 1)]) (.lit (.i .i64) 60)) (.app .b 26 1000000 [(.var (.i .i64) 0), (.var .x 1)])) (.app .b 12 1000000 []))
def es_9 : List E := []
theorem ev_9 : evE Try.prog G0 (tabOf cV3.fs) (ltOf cV3.ls) 40 10 e9 = some (ob_9, es_9) := by kernel_rfl

theorem st_ok {n tc mc L : Int} (k id d : Int) (h : RQ n (dc tc) (dc mc) (dc L)) :
    RQ (fn37 0 [n, tc, mc, n, L, k, id, d]) (dc (fn37 1 [n, tc, mc, n, L, k, id, d])) (dc (fn37 2 [n, tc, mc, n, L, k, id, d])) (dc (fn37 4 [n, tc, mc, n, L, k, id, d])) ∧ fn37 3 [n, tc, mc, n, L, k, id, d] = fn37 0 [n, tc, mc, n, L, k, id, d] := by
  have key : ∀ j, fn37 j [n, tc, mc, n, L, k, id, d] = (if k.tmod 8 = 4 then canX [n, tc, mc, n, L, k, id, d] (id % 16) j else if k.tmod 8 = 5 then tickX [n, tc, mc, n, L, k, id, d] j else if k.tmod 8 = 6 then toX [n, tc, mc, n, L, k, id, d] (n + d % 600) j else if k.tmod 8 = 7 then (if d.tmod 2 = 0 then armX [n, tc, mc, n, L, k, id, d] id d j else if d.tmod 3 = 0 then canX [n, tc, mc, n, L, k, id, d] id j else toX [n, tc, mc, n, L, k, id, d] id j) else armX [n, tc, mc, n, L, k, id, d] (id % 16) (n + 1 + d % 600) j) := fun j => rfl
  have cX : ∀ i, RQ (canX [n, tc, mc, n, L, k, id, d] i 0) (dc (canX [n, tc, mc, n, L, k, id, d] i 1)) (dc (canX [n, tc, mc, n, L, k, id, d] i 2)) (dc (canX [n, tc, mc, n, L, k, id, d] i 4)) ∧ canX [n, tc, mc, n, L, k, id, d] i 3 = canX [n, tc, mc, n, L, k, id, d] i 0 := fun i => ⟨(canX_ok i h).1, rfl⟩
  have tX : ∀ t, RQ (toX [n, tc, mc, n, L, k, id, d] t 0) (dc (toX [n, tc, mc, n, L, k, id, d] t 1)) (dc (toX [n, tc, mc, n, L, k, id, d] t 2)) (dc (toX [n, tc, mc, n, L, k, id, d] t 4)) ∧ toX [n, tc, mc, n, L, k, id, d] t 3 = toX [n, tc, mc, n, L, k, id, d] t 0 := fun t => ⟨(toX_ok t h).1, (toX_ok t h).2.1⟩
  have aX : ∀ i e, RQ (armX [n, tc, mc, n, L, k, id, d] i e 0) (dc (armX [n, tc, mc, n, L, k, id, d] i e 1)) (dc (armX [n, tc, mc, n, L, k, id, d] i e 2)) (dc (armX [n, tc, mc, n, L, k, id, d] i e 4)) ∧ armX [n, tc, mc, n, L, k, id, d] i e 3 = armX [n, tc, mc, n, L, k, id, d] i e 0 := fun i e => ⟨(armX_ok i e h).1, rfl⟩
  have kX : RQ (tickX [n, tc, mc, n, L, k, id, d] 0) (dc (tickX [n, tc, mc, n, L, k, id, d] 1)) (dc (tickX [n, tc, mc, n, L, k, id, d] 2)) (dc (tickX [n, tc, mc, n, L, k, id, d] 4)) ∧ tickX [n, tc, mc, n, L, k, id, d] 3 = tickX [n, tc, mc, n, L, k, id, d] 0 := ⟨(tickX_ok h).1, (tickX_ok h).2.1⟩
  rw [key 0, key 1, key 2, key 3, key 4]
  split
  · exact cX _
  · split
    · exact kX
    · split
      · exact tX _
      · split
        · split
          · exact aX _ _
          · split
            · exact cX _
            · exact tX _
        · exact aX _ _

theorem cV0ok : cV0.OK Try.prog G0 := ((Ctx.OK.nil.addF ok15 rfl).addF ok37 rfl).addF ok36 rfl

set_option maxHeartbeats 8000000 in
theorem lo26 : ItemOK Try.prog G0 26 p26 le26 := by
  refine cV0ok.loopP mixed mu26 rfl ?_ ev_L26 _ rfl _ rfl ?_
  · exact ⟨_, _, _, Try.func26, rfl, rfl⟩
  intro n xs hf hp hmu
  obtain ⟨l, hl, hS, hF⟩ := self_P le26 mu26 n cV0.l (by decide)
  show ob_L26.tt (Tabs.F (enL le26 mu26 n :: cV0.l)) _ = true ∧ outsP le26.ent.fn _ (Tabs.F (enL le26 mu26 n :: cV0.l)) _ _ _ _
  rw [hl]
  have F15_0 : ∀ xs, l.F 15 0 xs = e15.fn 0 xs := (hF e15 (by rfl) (by decide) (by decide)).1 0 rfl
  have P15 := (hF e15 (by rfl) (by decide) (by decide)).2
  replace P15 : ∀ xs, (i2b (K.b.norm (l.F 15 1000000 xs)) = true) = _ := P15
  have P36 := (hF e36 (by rfl) (by decide) (by decide)).2
  replace P36 : ∀ xs, (i2b (K.b.norm (l.F 36 1000000 xs)) = true) = _ := P36
  have F37_0 : ∀ xs, l.F 37 0 xs = e37.fn 0 xs := (hF e37 (by rfl) (by decide) (by decide)).1 0 rfl
  have F37_1 : ∀ xs, l.F 37 1 xs = e37.fn 1 xs := (hF e37 (by rfl) (by decide) (by decide)).1 1 rfl
  have F37_2 : ∀ xs, l.F 37 2 xs = e37.fn 2 xs := (hF e37 (by rfl) (by decide) (by decide)).1 2 rfl
  have F37_3 : ∀ xs, l.F 37 3 xs = e37.fn 3 xs := (hF e37 (by rfl) (by decide) (by decide)).1 3 rfl
  have F37_4 : ∀ xs, l.F 37 4 xs = e37.fn 4 xs := (hF e37 (by rfl) (by decide) (by decide)).1 4 rfl
  have P37 := (hF e37 (by rfl) (by decide) (by decide)).2
  replace P37 : ∀ xs, (i2b (K.b.norm (l.F 37 1000000 xs)) = true) = _ := P37
  have F9026_0 : ∀ xs, l.F 9026 0 xs = le26.ent.fn 0 xs := hS.1 0 rfl
  have F9026_1 : ∀ xs, l.F 9026 1 xs = le26.ent.fn 1 xs := hS.1 1 rfl
  have F9026_2 : ∀ xs, l.F 9026 2 xs = le26.ent.fn 2 xs := hS.1 2 rfl
  have F9026_3 : ∀ xs, l.F 9026 3 xs = le26.ent.fn 3 xs := hS.1 3 rfl
  have F9026_4 : ∀ xs, l.F 9026 4 xs = le26.ent.fn 4 xs := hS.1 4 rfl
  have P9026 := hS.2
  replace P9026 : ∀ xs, (i2b (K.b.norm (l.F 9026 1000000 xs)) = true) = _ := P9026
  obtain ⟨now, tc, mc, u, L, ok, c, m, i, rfl⟩ : ∃ a0 a1 a2 a3 a4 a5 a6 a7 a8, xs = [a0, a1, a2, a3, a4, a5, a6, a7, a8] := by
    have := fits_length hf
    match xs, this with
    | [a0, a1, a2, a3, a4, a5, a6, a7, a8], _ => exact ⟨_, _, _, _, _, _, _, _, _, rfl⟩
  obtain ⟨h0, h1, h2, h3, h4, h5, h6, h7, h8, _⟩ := hf
  simp only [norm_i, norm_x] at h0 h3 h7 h8
  obtain ⟨⟨p1, p2⟩, p3, p4, p5, p6, p7, p8⟩ := hp
  simp only [ewA, ewL, preC, binI, dvI, shI, cmpB, env, bi, List.headD, List.tail, List.map, Nat.reduceAdd] at p1 p2 p3 p4 p5 p6 p7 p8 hmu
  subst p2 p3
  have e1 : le26.ent.fn = fnL26 := rfl
  have e2 : le26.ent.pre = preL26 := rfl
  by_cases hlt : i < m
  · obtain ⟨r, hr, hrf, hrm, hrd⟩ := row_at p4 p6 (by omega)
    match r, hrf with
    | [k, id, d], hrf =>
      obtain ⟨k0, k1, k2, _⟩ := hrf
      simp only [norm_i] at k0 k1 k2
      obtain ⟨g1, g2⟩ := st_ok k id d p1
      have gt := g1.q.tim
      have hI0 : 0 ≤ id % 16 ∧ id % 16 < 16 := by omega
      obtain ⟨I, hI⟩ : ∃ I, I = id % 16 := ⟨_, rfl⟩
      have fI : e15.fn 0 [id, 16] = I := hI.symm
      rw [← hI] at hI0
      have wI : IntKind.i64.wrap I = I := i64w (by omega) (by omega)
      have w0 : IntKind.i64.wrap (fn37 0 [u, tc, mc, u, L, k, id, d]) = fn37 0 [u, tc, mc, u, L, k, id, d] := i64w (by omega) (by omega)
      have E37 : e37.fn = fn37 := rfl
      have key : ∀ j, fnL26 j [u, tc, mc, u, L, 1, c, m, i] = fnL26 j [fn37 0 [u, tc, mc, u, L, k, id, d], fn37 1 [u, tc, mc, u, L, k, id, d], fn37 2 [u, tc, mc, u, L, k, id, d], fn37 0 [u, tc, mc, u, L, k, id, d], fn37 4 [u, tc, mc, u, L, k, id, d], 1, c, m, i + 1] := fun j => by
        show env (runX ((dc c).drop i.toNat) [u, tc, mc, u, L]) j = env (runX ((dc c).drop (i + 1).toNat) [fn37 0 [u, tc, mc, u, L, k, id, d], fn37 1 [u, tc, mc, u, L, k, id, d], fn37 2 [u, tc, mc, u, L, k, id, d], fn37 0 [u, tc, mc, u, L, k, id, d], fn37 4 [u, tc, mc, u, L, k, id, d]]) j
        rw [hrd]
        show env (runX _ [fn37 0 [u, tc, mc, u, L, k, id, d], fn37 1 [u, tc, mc, u, L, k, id, d], fn37 2 [u, tc, mc, u, L, k, id, d], fn37 3 [u, tc, mc, u, L, k, id, d], fn37 4 [u, tc, mc, u, L, k, id, d]]) j = _
        rw [g2]
      refine ⟨?_, ?_, ?_, ?_, ?_, ?_, trivial⟩
      · simp (disch := omega) only [ob_L26, ewA, ewL, preC, binI, dvI, shI, cmpB, env, bi, List.headD, List.tail, List.map, Nat.reduceAdd, ewB, ewM, if_true, if_false, implies_true, forall_const, ne_eq, reduceCtorEq, Int.reduceEq, Int.reduceLT, Int.reduceLE, Int.reduceToNat, Int.reduceAdd, Int.reduceSub, Int.reduceMul, Int.reduceNeg, Int.reduceBEq, Nat.reduceLT, Nat.reduceEqDiff, F15_0, P15, P36, F37_0, F37_1, F37_2, F37_3, F37_4, P37, F9026_0, F9026_1, F9026_2, F9026_3, F9026_4, P9026, h0, h7, h8, hlt, hr, k0, k1, k2, E37, g2, w0, fI, wI, e2]
        exact ⟨⟨⟨p6, by omega⟩, ⟨p1, rfl⟩, ⟨g1, rfl⟩, ⟨by show (0 : Int) < 16; decide, by show (16 : Int) ≤ 4611686018427387904; decide⟩, ⟨g1, rfl⟩⟩, ⟨⟨g1, rfl⟩, rfl, p4, p5, by show 0 ≤ i + 1; omega, by show i + 1 ≤ m; omega, p8⟩, by simp only [mu26, ewA, ewL, preC, binI, dvI, shI, cmpB, env, bi, List.headD, List.tail, List.map, Nat.reduceAdd] at hmu ⊢; omega⟩
      all_goals simp (disch := omega) only [es_L26, ewA, ewL, preC, binI, dvI, shI, cmpB, env, bi, List.headD, List.tail, List.map, Nat.reduceAdd, ewB, ewM, if_true, if_false, implies_true, forall_const, ne_eq, reduceCtorEq, Int.reduceEq, Int.reduceLT, Int.reduceLE, Int.reduceToNat, Int.reduceAdd, Int.reduceSub, Int.reduceMul, Int.reduceNeg, Int.reduceBEq, Nat.reduceLT, Nat.reduceEqDiff, F15_0, P15, P36, F37_0, F37_1, F37_2, F37_3, F37_4, P37, F9026_0, F9026_1, F9026_2, F9026_3, F9026_4, P9026, h0, h7, h8, hlt, hr, k0, k1, k2, E37, g2, w0, fI, wI, e1]
      · rw [key 0]
      · exact key 1
      · exact key 2
      · rw [key 3]
      · exact key 4
  · have hd : (dc c).drop i.toNat = [] := List.drop_of_length_le (by omega)
    refine ⟨?_, ?_, ?_, ?_, ?_, ?_, trivial⟩
    · simp (disch := omega) only [ob_L26, ewA, ewL, preC, binI, dvI, shI, cmpB, env, bi, List.headD, List.tail, List.map, Nat.reduceAdd, ewB, ewM, if_true, if_false, implies_true, forall_const, ne_eq, reduceCtorEq, Int.reduceEq, Int.reduceLT, Int.reduceLE, Int.reduceToNat, Int.reduceAdd, Int.reduceSub, Int.reduceMul, Int.reduceNeg, Int.reduceBEq, Nat.reduceLT, Nat.reduceEqDiff, F15_0, P15, P36, F37_0, F37_1, F37_2, F37_3, F37_4, P37, F9026_0, F9026_1, F9026_2, F9026_3, F9026_4, P9026, h0, h7, h8, hlt]
    all_goals simp (disch := omega) only [es_L26, ewA, ewL, preC, binI, dvI, shI, cmpB, env, bi, List.headD, List.tail, List.map, Nat.reduceAdd, ewB, ewM, if_true, if_false, implies_true, forall_const, ne_eq, reduceCtorEq, Int.reduceEq, Int.reduceLT, Int.reduceLE, Int.reduceToNat, Int.reduceAdd, Int.reduceSub, Int.reduceMul, Int.reduceNeg, Int.reduceBEq, Nat.reduceLT, Nat.reduceEqDiff, F15_0, P15, P36, F37_0, F37_1, F37_2, F37_3, F37_4, P37, F9026_0, F9026_1, F9026_2, F9026_3, F9026_4, P9026, h0, h7, h8, hlt, e1, fnL26, hd]
    · exact h0
    · rfl
    · rfl
    · exact h0
    · rfl

theorem cV1ok : cV1.OK Try.prog G0 := (((cV0ok.addL lo26 rfl).addF ok20 rfl).addF ok35a rfl).sub rfl (by simp [cV1, cV0]) (by simp [cV1, cV0])

theorem ok26a : EntryOK Try.prog G0 e26a := cV1ok.entryP mixed ev_26a _ rfl _ rfl fun xs hf hp => by
  obtain ⟨l, hl, hF⟩ := ctx_P (l0 := cV1.l)
  show ob_26a.tt cV1.l.F _ = true ∧ outsP e26a.fn _ cV1.l.F _ _ _ _
  rw [hl]
  have F20_0 : ∀ xs, l.F 20 0 xs = e20.fn 0 xs := (hF e20 (by rfl) (by decide)).1 0 rfl
  have F20_1 : ∀ xs, l.F 20 1 xs = e20.fn 1 xs := (hF e20 (by rfl) (by decide)).1 1 rfl
  have F20_2 : ∀ xs, l.F 20 2 xs = e20.fn 2 xs := (hF e20 (by rfl) (by decide)).1 2 rfl
  have P20 := (hF e20 (by rfl) (by decide)).2
  replace P20 : ∀ xs, (i2b (K.b.norm (l.F 20 1000000 xs)) = true) = _ := P20
  have P36 := (hF e36 (by rfl) (by decide)).2
  replace P36 : ∀ xs, (i2b (K.b.norm (l.F 36 1000000 xs)) = true) = _ := P36
  have F1351_0 : ∀ xs, l.F 1351 0 xs = e35a.fn 0 xs := (hF e35a (by rfl) (by decide)).1 0 rfl
  have F1351_1 : ∀ xs, l.F 1351 1 xs = e35a.fn 1 xs := (hF e35a (by rfl) (by decide)).1 1 rfl
  have P1351 := (hF e35a (by rfl) (by decide)).2
  replace P1351 : ∀ xs, (i2b (K.b.norm (l.F 1351 1000000 xs)) = true) = _ := P1351
  have P9026 := (hF le26.ent (by rfl) (by decide)).2
  replace P9026 : ∀ xs, (i2b (K.b.norm (l.F 9026 1000000 xs)) = true) = _ := P9026
  obtain ⟨now, c, rfl⟩ := two_of (fits_length hf)
  obtain ⟨h0, h1, _⟩ := hf
  simp only [norm_i, norm_x] at h0
  obtain ⟨⟨p1, p2⟩, p3⟩ := hp
  simp only [ewA, ewL, preC, binI, dvI, shI, cmpB, env, bi, List.headD, List.tail, List.map, Nat.reduceAdd] at p1 p2 p3
  refine ⟨?_, trivial⟩
  simp (disch := omega) only [ob_26a, ewA, ewL, preC, binI, dvI, shI, cmpB, env, bi, List.headD, List.tail, List.map, Nat.reduceAdd, ewB, ewM, if_true, if_false, implies_true, forall_const, ne_eq, reduceCtorEq, Int.reduceEq, Int.reduceLT, Int.reduceLE, Int.reduceToNat, Int.reduceAdd, Int.reduceSub, Int.reduceMul, Int.reduceNeg, Int.reduceBEq, Nat.reduceLT, Nat.reduceEqDiff, F20_0, F20_1, F20_2, P20, P36, F1351_0, F1351_1, P1351, P9026, h0]
  have q0 : RQ now (dc (cd [])) (dc (cd [])) (dc (cd [])) := ⟨QI.nil p3.1 p3.2, List.Perm.refl _⟩
  have f0 : IntKind.i64.wrap (e20.fn 0 [now]) = now := h0
  have f1 : IntKind.i64.wrap (e35a.fn 0 [now]) = now := h0
  rw [f0, f1]
  exact ⟨p3, p3, ⟨q0, rfl⟩, ⟨q0, rfl⟩, rfl, p1, rfl, by show (0 : Int) ≤ 0; omega, by show (0 : Int) ≤ ((dc c).length : Int); omega, p2⟩

theorem ok21n : EntryOK Try.prog G0 e21n := cR0ok.entryP mixed ev_21n _ rfl _ rfl fun xs hf hp => by
  obtain ⟨l, hl, hF⟩ := ctx_P (l0 := cR0.l)
  show ob_21n.tt cR0.l.F _ = true ∧ outsP e21n.fn _ cR0.l.F _ _ _ _
  rw [hl]
  refine ⟨?_, trivial⟩
  simp (disch := omega) only [ob_21n, ewA, ewL, preC, binI, dvI, shI, cmpB, env, bi, List.headD, List.tail, List.map, Nat.reduceAdd, ewB, ewM, if_true, if_false, implies_true, forall_const, ne_eq, reduceCtorEq, Int.reduceEq, Int.reduceLT, Int.reduceLE, Int.reduceToNat, Int.reduceAdd, Int.reduceSub, Int.reduceMul, Int.reduceNeg, Int.reduceBEq, Nat.reduceLT, Nat.reduceEqDiff]

theorem cV2ok : cV2.OK Try.prog G0 := ((Ctx.OK.nil.addF ok21n rfl).addF ok35b rfl).addF ok20b rfl

theorem ok26b : EntryOK Try.prog G0 e26b := cV2ok.entryP mixed ev_26b _ rfl _ rfl fun xs hf hp => by
  obtain ⟨l, hl, hF⟩ := ctx_P (l0 := cV2.l)
  show ob_26b.tt cV2.l.F _ = true ∧ outsP e26b.fn _ cV2.l.F _ _ _ _
  rw [hl]
  have P121 := (hF e21n (by rfl) (by decide)).2
  replace P121 : ∀ xs, (i2b (K.b.norm (l.F 121 1000000 xs)) = true) = _ := P121
  have P200 := (hF e20b (by rfl) (by decide)).2
  replace P200 : ∀ xs, (i2b (K.b.norm (l.F 200 1000000 xs)) = true) = _ := P200
  have P1352 := (hF e35b (by rfl) (by decide)).2
  replace P1352 : ∀ xs, (i2b (K.b.norm (l.F 1352 1000000 xs)) = true) = _ := P1352
  obtain ⟨now, c, rfl⟩ := two_of (fits_length hf)
  obtain ⟨h0, h1, _⟩ := hf
  simp only [norm_i, norm_x] at h0
  obtain ⟨⟨p1, p2⟩, p3⟩ := hp
  simp only [ewA, ewL, preC, binI, dvI, shI, cmpB, env, bi, List.headD, List.tail, List.map, Nat.reduceAdd] at p1 p2 p3
  refine ⟨?_, trivial⟩
  simp (disch := omega) only [ob_26b, ewA, ewL, preC, binI, dvI, shI, cmpB, env, bi, List.headD, List.tail, List.map, Nat.reduceAdd, ewB, ewM, if_true, if_false, implies_true, forall_const, ne_eq, reduceCtorEq, Int.reduceEq, Int.reduceLT, Int.reduceLE, Int.reduceToNat, Int.reduceAdd, Int.reduceSub, Int.reduceMul, Int.reduceNeg, Int.reduceBEq, Nat.reduceLT, Nat.reduceEqDiff, P121, P200, P1352, h0]
  exact ⟨p3, p3, trivial⟩

open Classical in
theorem ok26 : EntryOK Try.prog G0 e26 := fun xs hf hp => by
  by_cases h : timB (env xs 0)
  · exact ok26a xs hf ⟨hp, h⟩
  · exact ok26b xs hf ⟨hp, h⟩

theorem cV3ok : cV3.OK Try.prog G0 := (Ctx.OK.nil.addF ok12 rfl).addF ok26 rfl

theorem ok9 : EntryOK Try.prog G0 e9 := cV3ok.entryP mixed ev_9 _ rfl _ rfl fun xs hf hp => by
  obtain ⟨l, hl, hF⟩ := ctx_P (l0 := cV3.l)
  show ob_9.tt cV3.l.F _ = true ∧ outsP e9.fn _ cV3.l.F _ _ _ _
  rw [hl]
  have P12 := (hF e12 (by rfl) (by decide)).2
  replace P12 : ∀ xs, (i2b (K.b.norm (l.F 12 1000000 xs)) = true) = _ := P12
  have P26 := (hF e26 (by rfl) (by decide)).2
  replace P26 : ∀ xs, (i2b (K.b.norm (l.F 26 1000000 xs)) = true) = _ := P26
  obtain ⟨now, c, rfl⟩ := two_of (fits_length hf)
  obtain ⟨h0, h1, _⟩ := hf
  simp only [norm_i, norm_x] at h0
  obtain ⟨p1, p2⟩ := hp
  simp only [ewA, ewL, preC, binI, dvI, shI, cmpB, env, bi, List.headD, List.tail, List.map, Nat.reduceAdd] at p1 p2
  refine ⟨?_, trivial⟩
  simp (disch := omega) only [ob_9, ewA, ewL, preC, binI, dvI, shI, cmpB, env, bi, List.headD, List.tail, List.map, Nat.reduceAdd, ewB, ewM, if_true, if_false, implies_true, forall_const, ne_eq, reduceCtorEq, Int.reduceEq, Int.reduceLT, Int.reduceLE, Int.reduceToNat, Int.reduceAdd, Int.reduceSub, Int.reduceMul, Int.reduceNeg, Int.reduceBEq, Nat.reduceLT, Nat.reduceEqDiff, P12, P26, h0]
  exact ⟨fun h => ⟨p1, h⟩, trivial⟩

end
end Go.Proofs.Ytmolkkphnehgcaa.Ew
