/- Layer 17: QueueOrdered. -/
import Derived.Test.YtmolkkphnehgcaaQn
set_option linter.unusedVariables false
set_option linter.unusedSimpArgs false
namespace Go.Proofs.Ytmolkkphnehgcaa.Ew
open Go Go.RowKit
noncomputable section
--P Try.prog G0

def p7 : List Bool := [true,true,true,true,true,true,false,true,false]
def fn7 (_ : Nat) (xs : List Int) : Int := b2i (i2b (env xs 5) || ((dc (env xs 4)).drop (env xs 8).toNat).any fun r => idR r == env xs 0)
def pre7 (xs : List Int) : Prop := QI (env xs 1) (dc (env xs 2)) (dc (env xs 3)) ∧ dc (env xs 4) = dc (env xs 2) ∧ dc (env xs 6) = dc (env xs 2) ∧ env xs 7 = ((dc (env xs 2)).length : Int) ∧ 0 ≤ env xs 8 ∧ env xs 8 ≤ env xs 7
def mu7 (xs : List Int) : Nat := (env xs 7 - env xs 8).toNat
def le7 : LEnt := ⟨⟨9007, 999999, [i64, .lt .b 0, qo, ls34, .sc .b, ls34, i64, i64], [], [0, 1, 2, 3, 4], .tup [.lt .b 0, .sc .b], fn7, pre7⟩, [2, 6, 7, 9, 10, 31, 32, 33], [6, 10], [11, 12, 13, 14] ++ (List.range 72).map (· + 33), [.ex 0], 144, [9, 31]⟩
def preA (xs : List Int) : Prop := rowsOK actK (dc (env xs 1)) ∧ ((dc (env xs 1)).length : Int) ≤ 9223372036854775807
def e7 : Ent := ⟨7, 7, [i64, acts, i64], [], [0], .lt .b 1, fun _ _ => 0, preA⟩
def c7a : Ctx := ⟨[e17, e25], []⟩
def cQ7 : Ctx := ⟨[e12, e13, e14, e25, e23, e19], [(7, p7, le7)]⟩

def ob_L7 : E := (.and (.and (.or (.not (.cmp .lss (.var (.i .i64) 8) (.var (.i .i64) 7))) (.and (.and (.cmp .geq (.var (.i .i64) 8) (.lit (.i .i64) 0)) (.cmp .lss (.var (.i .i64) 8) (.app (.i .i64) 0 0 [(.var .x 6)]))) (.and (.app .b 25 1000000 [(.var (.i .i64) 1), (.var .x 2), (.var .x 3), (.app (.i .i64) 0 1 [(.var .x 6), (.var (.i .i64) 8), (.lit .x 0)])]) (.and (.or (.or (.not (.app .b 25 1 [(.var (.i .i64) 1), (.var .x 2), (.var .x 3), (.app (.i .i64) 0 1 [(.var .x 6), (.var (.i .i64) 8), (.lit .x 0)])])) (.cmp .neq (.app (.i .i64) 25 0 [(.var (.i .i64) 1), (.var .x 2), (.var .x 3), (.app (.i .i64) 0 1 [(.var .x 6), (.var (.i .i64) 8), (.lit .x 0)])]) (.app (.i .i64) 0 1 [(.var .x 6), (.var (.i .i64) 8), (.lit .x 1)]))) (.app .b 17 1000000 [(.var (.i .i64) 1), (.var .x 2), (.var .x 3)])) (.and (.or (.not (.and (.not (.or (.or (.not (.app .b 25 1 [(.var (.i .i64) 1), (.var .x 2), (.var .x 3), (.app (.i .i64) 0 1 [(.var .x 6), (.var (.i .i64) 8), (.lit .x 0)])])) (.cmp .neq (.app (.i .i64) 25 0 [(.var (.i .i64) 1), (.var .x 2), (.var .x 3), (.app (.i .i64) 0 1 [(.var .x 6), (.var (.i .i64) 8), (.lit .x 0)])]) (.app (.i .i64) 0 1 [(.var .x 6), (.var (.i .i64) 8), (.lit .x 1)]))) (.cmp .leq (.app (.i .i64) 0 1 [(.var .x 6), (.var (.i .i64) 8), (.lit .x 1)]) (.app (.i .i64) 17 0 [(.var (.i .i64) 1), (.var .x 2), (.var .x 3)])))) (.cmp .gtr (.var (.i .i64) 8) (.lit (.i .i64) 0)))) (.and (.cmp .geq (.bin .sub .i64 (.var (.i .i64) 8) (.lit (.i .i64) 1)) (.lit (.i .i64) 0)) (.cmp .lss (.bin .sub .i64 (.var (.i .i64) 8) (.lit (.i .i64) 1)) (.app (.i .i64) 0 0 [(.var .x 4)])))) (.and (.or (.not (.and (.not (.or (.or (.not (.app .b 25 1 [(.var (.i .i64) 1), (.var .x 2), (.var .x 3), (.app (.i .i64) 0 1 [(.var .x 6), (.var (.i .i64) 8), (.lit .x 0)])])) (.cmp .neq (.app (.i .i64) 25 0 [(.var (.i .i64) 1), (.var .x 2), (.var .x 3), (.app (.i .i64) 0 1 [(.var .x 6), (.var (.i .i64) 8), (.lit .x 0)])]) (.app (.i .i64) 0 1 [(.var .x 6), (.var (.i .i64) 8), (.lit .x 1)]))) (.cmp .leq (.app (.i .i64) 0 1 [(.var .x 6), (.var (.i .i64) 8), (.lit .x 1)]) (.app (.i .i64) 17 0 [(.var (.i .i64) 1), (.var .x 2), (.var .x 3)])))) (.cmp .gtr (.var (.i .i64) 8) (.lit (.i .i64) 0)))) (.and (.cmp .geq (.bin .sub .i64 (.var (.i .i64) 8) (.lit (.i .i64) 1)) (.lit (.i .i64) 0)) (.cmp .lss (.bin .sub .i64 (.var (.i .i64) 8) (.lit (.i .i64) 1)) (.app (.i .i64) 0 0 [(.var .x 4)])))) (.and (.or (.not (.and (.not (.or (.or (.not (.app .b 25 1 [(.var (.i .i64) 1), (.var .x 2), (.var .x 3), (.app (.i .i64) 0 1 [(.var .x 6), (.var (.i .i64) 8), (.lit .x 0)])])) (.cmp .neq (.app (.i .i64) 25 0 [(.var (.i .i64) 1), (.var .x 2), (.var .x 3), (.app (.i .i64) 0 1 [(.var .x 6), (.var (.i .i64) 8), (.lit .x 0)])]) (.app (.i .i64) 0 1 [(.var .x 6), (.var (.i .i64) 8), (.lit .x 1)]))) (.cmp .leq (.app (.i .i64) 0 1 [(.var .x 6), (.var (.i .i64) 8), (.lit .x 1)]) (.app (.i .i64) 17 0 [(.var (.i .i64) 1), (.var .x 2), (.var .x 3)])))) (.and (.cmp .gtr (.var (.i .i64) 8) (.lit (.i .i64) 0)) (.not (.cmp .gtr (.app (.i .i64) 0 1 [(.var .x 4), (.bin .sub .i64 (.var (.i .i64) 8) (.lit (.i .i64) 1)), (.lit .x 1)]) (.app (.i .i64) 0 1 [(.var .x 6), (.var (.i .i64) 8), (.lit .x 1)])))))) (.and (.cmp .geq (.bin .sub .i64 (.var (.i .i64) 8) (.lit (.i .i64) 1)) (.lit (.i .i64) 0)) (.cmp .lss (.bin .sub .i64 (.var (.i .i64) 8) (.lit (.i .i64) 1)) (.app (.i .i64) 0 0 [(.var .x 4)])))) (.and (.or (.not (.and (.not (.or (.or (.not (.app .b 25 1 [(.var (.i .i64) 1), (.var .x 2), (.var .x 3), (.app (.i .i64) 0 1 [(.var .x 6), (.var (.i .i64) 8), (.lit .x 0)])])) (.cmp .neq (.app (.i .i64) 25 0 [(.var (.i .i64) 1), (.var .x 2), (.var .x 3), (.app (.i .i64) 0 1 [(.var .x 6), (.var (.i .i64) 8), (.lit .x 0)])]) (.app (.i .i64) 0 1 [(.var .x 6), (.var (.i .i64) 8), (.lit .x 1)]))) (.cmp .leq (.app (.i .i64) 0 1 [(.var .x 6), (.var (.i .i64) 8), (.lit .x 1)]) (.app (.i .i64) 17 0 [(.var (.i .i64) 1), (.var .x 2), (.var .x 3)])))) (.and (.cmp .gtr (.var (.i .i64) 8) (.lit (.i .i64) 0)) (.not (.cmp .gtr (.app (.i .i64) 0 1 [(.var .x 4), (.bin .sub .i64 (.var (.i .i64) 8) (.lit (.i .i64) 1)), (.lit .x 1)]) (.app (.i .i64) 0 1 [(.var .x 6), (.var (.i .i64) 8), (.lit .x 1)])))))) (.and (.cmp .geq (.bin .sub .i64 (.var (.i .i64) 8) (.lit (.i .i64) 1)) (.lit (.i .i64) 0)) (.cmp .lss (.bin .sub .i64 (.var (.i .i64) 8) (.lit (.i .i64) 1)) (.app (.i .i64) 0 0 [(.var .x 4)])))) (.or (.not (.and (.not (.or (.or (.not (.app .b 25 1 [(.var (.i .i64) 1), (.var .x 2), (.var .x 3), (.app (.i .i64) 0 1 [(.var .x 6), (.var (.i .i64) 8), (.lit .x 0)])])) (.cmp .neq (.app (.i .i64) 25 0 [(.var (.i .i64) 1), (.var .x 2), (.var .x 3), (.app (.i .i64) 0 1 [(.var .x 6), (.var (.i .i64) 8), (.lit .x 0)])]) (.app (.i .i64) 0 1 [(.var .x 6), (.var (.i .i64) 8), (.lit .x 1)]))) (.cmp .leq (.app (.i .i64) 0 1 [(.var .x 6), (.var (.i .i64) 8), (.lit .x 1)]) (.app (.i .i64) 17 0 [(.var (.i .i64) 1), (.var .x 2), (.var .x 3)])))) (.and (.cmp .gtr (.var (.i .i64) 8) (.lit (.i .i64) 0)) (.and (.not (.cmp .gtr (.app (.i .i64) 0 1 [(.var .x 4), (.bin .sub .i64 (.var (.i .i64) 8) (.lit (.i .i64) 1)), (.lit .x 1)]) (.app (.i .i64) 0 1 [(.var .x 6), (.var (.i .i64) 8), (.lit .x 1)]))) (.cmp .eql (.app (.i .i64) 0 1 [(.var .x 4), (.bin .sub .i64 (.var (.i .i64) 8) (.lit (.i .i64) 1)), (.lit .x 1)]) (.app (.i .i64) 0 1 [(.var .x 6), (.var (.i .i64) 8), (.lit .x 1)])))))) (.and (.cmp .geq (.bin .sub .i64 (.var (.i .i64) 8) (.lit (.i .i64) 1)) (.lit (.i .i64) 0)) (.cmp .lss (.bin .sub .i64 (.var (.i .i64) 8) (.lit (.i .i64) 1)) (.app (.i .i64) 0 0 [(.var .x 4)])))))))))))) (.or (.not (.and (.cmp .lss (.var (.i .i64) 8) (.var (.i .i64) 7)) (.not (.or (.or (.or (.not (.app .b 25 1 [(.var (.i .i64) 1), (.var .x 2), (.var .x 3), (.app (.i .i64) 0 1 [(.var .x 6), (.var (.i .i64) 8), (.lit .x 0)])])) (.cmp .neq (.app (.i .i64) 25 0 [(.var (.i .i64) 1), (.var .x 2), (.var .x 3), (.app (.i .i64) 0 1 [(.var .x 6), (.var (.i .i64) 8), (.lit .x 0)])]) (.app (.i .i64) 0 1 [(.var .x 6), (.var (.i .i64) 8), (.lit .x 1)]))) (.cmp .leq (.app (.i .i64) 0 1 [(.var .x 6), (.var (.i .i64) 8), (.lit .x 1)]) (.app (.i .i64) 17 0 [(.var (.i .i64) 1), (.var .x 2), (.var .x 3)]))) (.and (.cmp .gtr (.var (.i .i64) 8) (.lit (.i .i64) 0)) (.or (.cmp .gtr (.app (.i .i64) 0 1 [(.var .x 4), (.bin .sub .i64 (.var (.i .i64) 8) (.lit (.i .i64) 1)), (.lit .x 1)]) (.app (.i .i64) 0 1 [(.var .x 6), (.var (.i .i64) 8), (.lit .x 1)])) (.and (.cmp .eql (.app (.i .i64) 0 1 [(.var .x 4), (.bin .sub .i64 (.var (.i .i64) 8) (.lit (.i .i64) 1)), (.lit .x 1)]) (.app (.i .i64) 0 1 [(.var .x 6), (.var (.i .i64) 8), (.lit .x 1)])) (.cmp .geq (.app (.i .i64) 0 1 [(.var .x 4), (.bin .sub .i64 (.var (.i .i64) 8) (.lit (.i .i64) 1)), (.lit .x 0)]) (.app (.i .i64) 0 1 [(.var .x 6), (.var (.i .i64) 8), (.lit .x 0)]))))))))) (.app .b 9007 1000000 [(.var (.i .i64) 0), (.var (.i .i64) 1), (.var .x 2), (.var .x 3), (.var .x 4), (.or (.var .b 5) (.cmp .eql (.app (.i .i64) 0 1 [(.var .x 6), (.var (.i .i64) 8), (.lit .x 0)]) (.var (.i .i64) 0))), (.var .x 6), (.var (.i .i64) 7), (.bin .add .i64 (.var (.i .i64) 8) (.lit (.i .i64) 1))]))) (.not (.and (.cmp .lss (.var (.i .i64) 8) (.var (.i .i64) 7)) (.or (.or (.or (.not (.app .b 25 1 [(.var (.i .i64) 1), (.var .x 2), (.var .x 3), (.app (.i .i64) 0 1 [(.var .x 6), (.var (.i .i64) 8), (.lit .x 0)])])) (.cmp .neq (.app (.i .i64) 25 0 [(.var (.i .i64) 1), (.var .x 2), (.var .x 3), (.app (.i .i64) 0 1 [(.var .x 6), (.var (.i .i64) 8), (.lit .x 0)])]) (.app (.i .i64) 0 1 [(.var .x 6), (.var (.i .i64) 8), (.lit .x 1)]))) (.cmp .leq (.app (.i .i64) 0 1 [(.var .x 6), (.var (.i .i64) 8), (.lit .x 1)]) (.app (.i .i64) 17 0 [(.var (.i .i64) 1), (.var .x 2), (.var .x 3)]))) (.and (.cmp .gtr (.var (.i .i64) 8) (.lit (.i .i64) 0)) (.or (.cmp .gtr (.app (.i .i64) 0 1 [(.var .x 4), (.bin .sub .i64 (.var (.i .i64) 8) (.lit (.i .i64) 1)), (.lit .x 1)]) (.app (.i .i64) 0 1 [(.var .x 6), (.var (.i .i64) 8), (.lit .x 1)])) (.and (.cmp .eql (.app (.i .i64) 0 1 [(.var .x 4), (.bin .sub .i64 (.var (.i .i64) 8) (.lit (.i .i64) 1)), (.lit .x 1)]) (.app (.i .i64) 0 1 [(.var .x 6), (.var (.i .i64) 8), (.lit .x 1)])) (.cmp .geq (.app (.i .i64) 0 1 [(.var .x 4), (.bin .sub .i64 (.var (.i .i64) 8) (.lit (.i .i64) 1)), (.lit .x 0)]) (.app (.i .i64) 0 1 [(.var .x 6), (.var (.i .i64) 8), (.lit .x 0)])))))))))
def es_L7 : List E := [(.ite (.not (.cmp .lss (.var (.i .i64) 8) (.var (.i .i64) 7))) (.var .b 5) (.app .b 9007 0 [(.var (.i .i64) 0), (.var (.i .i64) 1), (.var .x 2), (.var .x 3), (.var .x 4), (.or (.var .b 5) (.cmp .eql (.app (.i .i64) 0 1 [(.var .x 6), (.var (.i .i64) 8), (.lit .x 0)]) (.var (.i .i64) 0))), (.var .x 6), (.var (.i .i64) 7), (.bin .add .i64 (.var (.i .i64) 8) (.lit (.i .i64) 1))]))]
theorem ev_L7 : evL Try.prog G0 (tabOf c7a.fs) (evFn Try.prog G0 (tabOf c7a.fs) (ltOf c7a.ls) 40 10) 40 (subL c7a.ls 7 p7) le7 (bodyAt Try.prog 7 p7) = some (ob_L7, es_L7) := by kernel_rfl

def ob_7 : E := (.and (.and (.app .b 12 1000000 []) (.and (.app .b 13 1000000 [(.var (.i .i64) 0), (.var .x 1)]) (.and (.app .b 14 1000000 [(.app (.i .i64) 13 0 [(.var (.i .i64) 0), (.var .x 1)]), (.app .x 13 1 [(.var (.i .i64) 0), (.var .x 1)]), (.app .x 13 2 [(.var (.i .i64) 0), (.var .x 1)])]) (.and (.app .b 9007 1000000 [(.var (.i .i64) 2), (.app (.i .i64) 13 0 [(.var (.i .i64) 0), (.var .x 1)]), (.app .x 13 1 [(.var (.i .i64) 0), (.var .x 1)]), (.app .x 13 2 [(.var (.i .i64) 0), (.var .x 1)]), (.app .x 14 0 [(.app (.i .i64) 13 0 [(.var (.i .i64) 0), (.var .x 1)]), (.app .x 13 1 [(.var (.i .i64) 0), (.var .x 1)]), (.app .x 13 2 [(.var (.i .i64) 0), (.var .x 1)])]), (.lit .b 0), (.app .x 14 0 [(.app (.i .i64) 13 0 [(.var (.i .i64) 0), (.var .x 1)]), (.app .x 13 1 [(.var (.i .i64) 0), (.var .x 1)]), (.app .x 13 2 [(.var (.i .i64) 0), (.var .x 1)])]), (.app (.i .i64) 0 0 [(.app .x 14 0 [(.app (.i .i64) 13 0 [(.var (.i .i64) 0), (.var .x 1)]), (.app .x 13 1 [(.var (.i .i64) 0), (.var .x 1)]), (.app .x 13 2 [(.var (.i .i64) 0), (.var .x 1)])])]), (.lit (.i .i64) 0)]) (.and (.app .b 25 1000000 [(.app (.i .i64) 13 0 [(.var (.i .i64) 0), (.var .x 1)]), (.app .x 13 1 [(.var (.i .i64) 0), (.var .x 1)]), (.app .x 13 2 [(.var (.i .i64) 0), (.var .x 1)]), (.var (.i .i64) 2)]) (.and (.app .b 23 1000000 [(.app (.i .i64) 13 0 [(.var (.i .i64) 0), (.var .x 1)]), (.app .x 13 1 [(.var (.i .i64) 0), (.var .x 1)]), (.app .x 13 2 [(.var (.i .i64) 0), (.var .x 1)])]) (.and (.or (.not (.cmp .eql (.app .b 25 1 [(.app (.i .i64) 13 0 [(.var (.i .i64) 0), (.var .x 1)]), (.app .x 13 1 [(.var (.i .i64) 0), (.var .x 1)]), (.app .x 13 2 [(.var (.i .i64) 0), (.var .x 1)]), (.var (.i .i64) 2)]) (.app .b 9007 0 [(.var (.i .i64) 2), (.app (.i .i64) 13 0 [(.var (.i .i64) 0), (.var .x 1)]), (.app .x 13 1 [(.var (.i .i64) 0), (.var .x 1)]), (.app .x 13 2 [(.var (.i .i64) 0), (.var .x 1)]), (.app .x 14 0 [(.app (.i .i64) 13 0 [(.var (.i .i64) 0), (.var .x 1)]), (.app .x 13 1 [(.var (.i .i64) 0), (.var .x 1)]), (.app .x 13 2 [(.var (.i .i64) 0), (.var .x 1)])]), (.lit .b 0), (.app .x 14 0 [(.app (.i .i64) 13 0 [(.var (.i .i64) 0), (.var .x 1)]), (.app .x 13 1 [(.var (.i .i64) 0), (.var .x 1)]), (.app .x 13 2 [(.var (.i .i64) 0), (.var .x 1)])]), (.app (.i .i64) 0 0 [(.app .x 14 0 [(.app (.i .i64) 13 0 [(.var (.i .i64) 0), (.var .x 1)]), (.app .x 13 1 [(.var (.i .i64) 0), (.var .x 1)]), (.app .x 13 2 [(.var (.i .i64) 0), (.var .x 1)])])]), (.lit (.i .i64) 0)]))) (.app .b 19 1000000 [(.app (.i .i64) 13 0 [(.var (.i .i64) 0), (.var .x 1)]), (.app .x 13 1 [(.var (.i .i64) 0), (.var .x 1)]), (.app .x 13 2 [(.var (.i .i64) 0), (.var .x 1)])])) (.or (.not (.and (.and (.and (.cmp .eql (.app .b 25 1 [(.app (.i .i64) 13 0 [(.var (.i .i64) 0), (.var .x 1)]), (.app .x 13 1 [(.var (.i .i64) 0), (.var .x 1)]), (.app .x 13 2 [(.var (.i .i64) 0), (.var .x 1)]), (.var (.i .i64) 2)]) (.app .b 9007 0 [(.var (.i .i64) 2), (.app (.i .i64) 13 0 [(.var (.i .i64) 0), (.var .x 1)]), (.app .x 13 1 [(.var (.i .i64) 0), (.var .x 1)]), (.app .x 13 2 [(.var (.i .i64) 0), (.var .x 1)]), (.app .x 14 0 [(.app (.i .i64) 13 0 [(.var (.i .i64) 0), (.var .x 1)]), (.app .x 13 1 [(.var (.i .i64) 0), (.var .x 1)]), (.app .x 13 2 [(.var (.i .i64) 0), (.var .x 1)])]), (.lit .b 0), (.app .x 14 0 [(.app (.i .i64) 13 0 [(.var (.i .i64) 0), (.var .x 1)]), (.app .x 13 1 [(.var (.i .i64) 0), (.var .x 1)]), (.app .x 13 2 [(.var (.i .i64) 0), (.var .x 1)])]), (.app (.i .i64) 0 0 [(.app .x 14 0 [(.app (.i .i64) 13 0 [(.var (.i .i64) 0), (.var .x 1)]), (.app .x 13 1 [(.var (.i .i64) 0), (.var .x 1)]), (.app .x 13 2 [(.var (.i .i64) 0), (.var .x 1)])])]), (.lit (.i .i64) 0)])) (.cmp .eql (.app (.i .i64) 19 0 [(.app (.i .i64) 13 0 [(.var (.i .i64) 0), (.var .x 1)]), (.app .x 13 1 [(.var (.i .i64) 0), (.var .x 1)]), (.app .x 13 2 [(.var (.i .i64) 0), (.var .x 1)])]) (.app (.i .i64) 0 0 [(.app .x 14 0 [(.app (.i .i64) 13 0 [(.var (.i .i64) 0), (.var .x 1)]), (.app .x 13 1 [(.var (.i .i64) 0), (.var .x 1)]), (.app .x 13 2 [(.var (.i .i64) 0), (.var .x 1)])])]))) (.cmp .eql (.app .b 23 2 [(.app (.i .i64) 13 0 [(.var (.i .i64) 0), (.var .x 1)]), (.app .x 13 1 [(.var (.i .i64) 0), (.var .x 1)]), (.app .x 13 2 [(.var (.i .i64) 0), (.var .x 1)])]) (.cmp .gtr (.app (.i .i64) 0 0 [(.app .x 14 0 [(.app (.i .i64) 13 0 [(.var (.i .i64) 0), (.var .x 1)]), (.app .x 13 1 [(.var (.i .i64) 0), (.var .x 1)]), (.app .x 13 2 [(.var (.i .i64) 0), (.var .x 1)])])]) (.lit (.i .i64) 0)))) (.app .b 23 2 [(.app (.i .i64) 13 0 [(.var (.i .i64) 0), (.var .x 1)]), (.app .x 13 1 [(.var (.i .i64) 0), (.var .x 1)]), (.app .x 13 2 [(.var (.i .i64) 0), (.var .x 1)])]))) (.cmp .lss (.lit (.i .i64) 0) (.app (.i .i64) 0 0 [(.app .x 14 0 [(.app (.i .i64) 13 0 [(.var (.i .i64) 0), (.var .x 1)]), (.app .x 13 1 [(.var (.i .i64) 0), (.var .x 1)]), (.app .x 13 2 [(.var (.i .i64) 0), (.var .x 1)])])])))))))))) (.and (.and (.and (.cmp .eql (.app .b 25 1 [(.app (.i .i64) 13 0 [(.var (.i .i64) 0), (.var .x 1)]), (.app .x 13 1 [(.var (.i .i64) 0), (.var .x 1)]), (.app .x 13 2 [(.var (.i .i64) 0), (.var .x 1)]), (.var (.i .i64) 2)]) (.app .b 9007 0 [(.var (.i .i64) 2), (.app (.i .i64) 13 0 [(.var (.i .i64) 0), (.var .x 1)]), (.app .x 13 1 [(.var (.i .i64) 0), (.var .x 1)]), (.app .x 13 2 [(.var (.i .i64) 0), (.var .x 1)]), (.app .x 14 0 [(.app (.i .i64) 13 0 [(.var (.i .i64) 0), (.var .x 1)]), (.app .x 13 1 [(.var (.i .i64) 0), (.var .x 1)]), (.app .x 13 2 [(.var (.i .i64) 0), (.var .x 1)])]), (.lit .b 0), (.app .x 14 0 [(.app (.i .i64) 13 0 [(.var (.i .i64) 0), (.var .x 1)]), (.app .x 13 1 [(.var (.i .i64) 0), (.var .x 1)]), (.app .x 13 2 [(.var (.i .i64) 0), (.var .x 1)])]), (.app (.i .i64) 0 0 [(.app .x 14 0 [(.app (.i .i64) 13 0 [(.var (.i .i64) 0), (.var .x 1)]), (.app .x 13 1 [(.var (.i .i64) 0), (.var .x 1)]), (.app .x 13 2 [(.var (.i .i64) 0), (.var .x 1)])])]), (.lit (.i .i64) 0)])) (.cmp .eql (.app (.i .i64) 19 0 [(.app (.i .i64) 13 0 [(.var (.i .i64) 0), (.var .x 1)]), (.app .x 13 1 [(.var (.i .i64) 0), (.var .x 1)]), (.app .x 13 2 [(.var (.i .i64) 0), (.var .x 1)])]) (.app (.i .i64) 0 0 [(.app .x 14 0 [(.app (.i .i64) 13 0 [(.var (.i .i64) 0), (.var .x 1)]), (.app .x 13 1 [(.var (.i .i64) 0), (.var .x 1)]), (.app .x 13 2 [(.var (.i .i64) 0), (.var .x 1)])])]))) (.cmp .eql (.app .b 23 2 [(.app (.i .i64) 13 0 [(.var (.i .i64) 0), (.var .x 1)]), (.app .x 13 1 [(.var (.i .i64) 0), (.var .x 1)]), (.app .x 13 2 [(.var (.i .i64) 0), (.var .x 1)])]) (.cmp .gtr (.app (.i .i64) 0 0 [(.app .x 14 0 [(.app (.i .i64) 13 0 [(.var (.i .i64) 0), (.var .x 1)]), (.app .x 13 1 [(.var (.i .i64) 0), (.var .x 1)]), (.app .x 13 2 [(.var (.i .i64) 0), (.var .x 1)])])]) (.lit (.i .i64) 0)))) (.or (.not (.app .b 23 2 [(.app (.i .i64) 13 0 [(.var (.i .i64) 0), (.var .x 1)]), (.app .x 13 1 [(.var (.i .i64) 0), (.var .x 1)]), (.app .x 13 2 [(.var (.i .i64) 0), (.var .x 1)])])) (.and (.cmp .eql (.app (.i .i64) 23 0 [(.app (.i .i64) 13 0 [(.var (.i .i64) 0), (.var .x 1)]), (.app .x 13 1 [(.var (.i .i64) 0), (.var .x 1)]), (.app .x 13 2 [(.var (.i .i64) 0), (.var .x 1)])]) (.app (.i .i64) 0 1 [(.app .x 14 0 [(.app (.i .i64) 13 0 [(.var (.i .i64) 0), (.var .x 1)]), (.app .x 13 1 [(.var (.i .i64) 0), (.var .x 1)]), (.app .x 13 2 [(.var (.i .i64) 0), (.var .x 1)])]), (.lit (.i .i64) 0), (.lit .x 0)])) (.cmp .eql (.app (.i .i64) 23 1 [(.app (.i .i64) 13 0 [(.var (.i .i64) 0), (.var .x 1)]), (.app .x 13 1 [(.var (.i .i64) 0), (.var .x 1)]), (.app .x 13 2 [(.var (.i .i64) 0), (.var .x 1)])]) (.app (.i .i64) 0 1 [(.app .x 14 0 [(.app (.i .i64) 13 0 [(.var (.i .i64) 0), (.var .x 1)]), (.app .x 13 1 [(.var (.i .i64) 0), (.var .x 1)]), (.app .x 13 2 [(.var (.i .i64) 0), (.var .x 1)])]), (.lit (.i .i64) 0), (.lit .x 1)]))))))
def es_7 : List E := []
theorem ev_7 : evE Try.prog G0 (tabOf cQ7.fs) (ltOf cQ7.ls) 40 10 e7 = some (ob_7, es_7) := by kernel_rfl

theorem c7aok : c7a.OK Try.prog G0 := ((c7ok.addF ok17 rfl).addF ok25 rfl).sub rfl (by simp [c7a]) (by simp [c7a])

set_option maxHeartbeats 4000000 in
theorem lo7 : ItemOK Try.prog G0 7 p7 le7 := by
  refine c7aok.loopP mixed mu7 rfl ?_ ev_L7 _ rfl _ rfl ?_
  · exact ⟨_, _, _, Try.func7, rfl, rfl⟩
  intro n xs hf hp hmu
  obtain ⟨l, hl, hS, hF⟩ := self_P le7 mu7 n c7a.l (by decide)
  show ob_L7.tt (Tabs.F (enL le7 mu7 n :: c7a.l)) _ = true ∧ outsP le7.ent.fn _ (Tabs.F (enL le7 mu7 n :: c7a.l)) _ _ _ _
  rw [hl]
  have F17_0 : ∀ xs, l.F 17 0 xs = e17.fn 0 xs := (hF e17 (by rfl) (by decide) (by decide)).1 0 rfl
  have P17 := (hF e17 (by rfl) (by decide) (by decide)).2
  replace P17 : ∀ xs, (i2b (K.b.norm (l.F 17 1000000 xs)) = true) = _ := P17
  have F25_0 : ∀ xs, l.F 25 0 xs = e25.fn 0 xs := (hF e25 (by rfl) (by decide) (by decide)).1 0 rfl
  have F25_1 : ∀ xs, l.F 25 1 xs = e25.fn 1 xs := (hF e25 (by rfl) (by decide) (by decide)).1 1 rfl
  have P25 := (hF e25 (by rfl) (by decide) (by decide)).2
  replace P25 : ∀ xs, (i2b (K.b.norm (l.F 25 1000000 xs)) = true) = _ := P25
  have F9007_0 : ∀ xs, l.F 9007 0 xs = le7.ent.fn 0 xs := hS.1 0 rfl
  have P9007 := hS.2
  replace P9007 : ∀ xs, (i2b (K.b.norm (l.F 9007 1000000 xs)) = true) = _ := P9007
  match xs, hf with
  | [id, now, tc, mc, c, kn, c2, m, i], hf =>
    obtain ⟨h0, h1, h2, h3, h4, h5, h6, h7, h8, _⟩ := hf
    simp only [norm_i, norm_x] at h0 h1 h7 h8
    obtain ⟨p1, p2, p3, p4, p5, p6⟩ := hp
    simp only [ewA, preC, binI, dvI, shI, cmpB, env, List.map_cons, List.map_nil, List.getD_cons_succ, List.getD_cons_zero, List.getElem?_cons_zero, List.getElem?_cons_succ, bi, List.headD, List.tail, List.map, List.nil_append, List.cons_append, Int.toNat_zero, Int.toNat_one, Int.toNat_natCast, Nat.zero_add, Nat.reduceAdd] at p1 p2 p3 p4 p5 p6 hmu
    have ht := p1.tim
    have hlen := p1.len
    have e1 : le7.ent.fn = fn7 := rfl
    have e2 : le7.ent.pre = pre7 := rfl
    have hm := i64r h7
    by_cases hlt : i < m
    · obtain ⟨r, hr, hrf, hrm, hrd⟩ := row_at p1.row p5 (by omega)
      match r, hrf with
      | [a, b], hrf =>
        obtain ⟨k0, k1, _⟩ := hrf
        simp only [norm_i] at k0 k1
        rw [← p3] at hr hrd
        have hrg := p1.rng _ hrm
        replace hrg : 0 ≤ a ∧ a < 4096 ∧ now < b ∧ b ≤ now + 2147483648 := hrg
        have x0 : fn25 0 [now, tc, mc, a] = b := by
          show ((((dc mc).find? fun r => r.take [a].length == [a]).getD (a :: List.replicate 1 0))).getD 1 0 = b
          rw [p1.val hrm]; rfl
        have x1 : fn25 1 [now, tc, mc, a] = 1 := by
          show b2i (hasM (dc mc) a) = 1
          have : hasM (dc mc) a = true := (p1.has a).2 ⟨b, hrm⟩
          rw [this]; rfl
        have hcl : (dc c).length = (dc tc).length := by rw [p2]
        have hcl2 : (dc c2).length = (dc tc).length := by rw [p3]
        have hnx : pre7 [id, now, tc, mc, c, b2i (i2b kn || a == id), c2, m, i + 1] ∧ mu7 [id, now, tc, mc, c, b2i (i2b kn || a == id), c2, m, i + 1] < n :=
          ⟨⟨p1, p2, p3, p4, by show 0 ≤ i + 1; omega, by show i + 1 ≤ m; omega⟩, by simp only [mu7, ewA, preC, binI, dvI, shI, cmpB, env, List.map_cons, List.map_nil, List.getD_cons_succ, List.getD_cons_zero, List.getElem?_cons_zero, List.getElem?_cons_succ, bi, List.headD, List.tail, List.map, List.nil_append, List.cons_append, Int.toNat_zero, Int.toNat_one, Int.toNat_natCast, Nat.zero_add, Nat.reduceAdd] at hmu ⊢; omega⟩
        refine ⟨?_, ?_, trivial⟩
        · by_cases hi : 0 < i
          · obtain ⟨r', hr', hrf', hrm', hrd'⟩ := row_at p1.row (i := i - 1) (by omega) (by omega)
            match r', hrf' with
            | [a', b'], hrf' =>
              obtain ⟨k0', k1', _⟩ := hrf'
              simp only [norm_i] at k0' k1'
              have hs : srtT ((dc tc).drop (i - 1).toNat) := List.Pairwise.sublist (List.drop_sublist _ _) p1.srt
              rw [hrd', show (i - 1 + 1).toNat = i.toNat by omega, ← p3, hrd] at hs
              have hlt' := (List.pairwise_cons.1 hs).1 [a, b] (List.mem_cons_self ..)
              rw [ltT_iff] at hlt'
              replace hlt' : b' < b ∨ b' = b ∧ a' < a := hlt'
              rw [← p2] at hr'
              simp (disch := omega) only [ob_L7, ewA, preC, binI, dvI, shI, cmpB, env, List.map_cons, List.map_nil, List.getD_cons_succ, List.getD_cons_zero, List.getElem?_cons_zero, List.getElem?_cons_succ, bi, List.headD, List.tail, List.map, List.nil_append, List.cons_append, Int.toNat_zero, Int.toNat_one, Int.toNat_natCast, Nat.zero_add, Nat.reduceAdd, ewB, pdec, pndec, Int.not_lt, Int.not_le, if_true, if_false, ite_true, ite_false, true_and, and_true, false_and, and_false, true_implies, implies_true, false_implies, forall_const, not_true_eq_false, not_false_eq_true, ne_eq, reduceCtorEq, List.take_length, List.drop_zero, Int.reduceEq, Int.reduceLT, Int.reduceLE, Int.reduceToNat, Int.reduceAdd, Int.reduceSub, Int.reduceMul, Int.reduceNeg, Int.reduceBEq, Nat.reduceAdd, Nat.reduceLT, Nat.reduceEqDiff, F17_0, P17, F25_0, F25_1, P25, F9007_0, P9007, h0, h1, h7, h8, hlt, hr, k0, k1, e17, e25, x0, x1, e2, hcl, hcl2, hi, hr', k0', k1']
              have g1 : now < b := hrg.2.2.1
              have g2 : b' ≤ b ∧ (b' = b → a' < a) := by omega
              have g3 : 0 ≤ i ∧ i < ((dc tc).length : Int) := by omega
              have g4 : 0 ≤ i - 1 ∧ i - 1 < ((dc tc).length : Int) := by omega
              exact ⟨⟨⟨g3, fun _ => g4, fun _ => g4, fun _ => g4, fun _ => g4, fun _ => g4⟩, fun _ => hnx⟩, g1, g2⟩
          · simp (disch := omega) only [ob_L7, ewA, preC, binI, dvI, shI, cmpB, env, List.map_cons, List.map_nil, List.getD_cons_succ, List.getD_cons_zero, List.getElem?_cons_zero, List.getElem?_cons_succ, bi, List.headD, List.tail, List.map, List.nil_append, List.cons_append, Int.toNat_zero, Int.toNat_one, Int.toNat_natCast, Nat.zero_add, Nat.reduceAdd, ewB, pdec, pndec, Int.not_lt, Int.not_le, if_true, if_false, ite_true, ite_false, true_and, and_true, false_and, and_false, true_implies, implies_true, false_implies, forall_const, not_true_eq_false, not_false_eq_true, ne_eq, reduceCtorEq, List.take_length, List.drop_zero, Int.reduceEq, Int.reduceLT, Int.reduceLE, Int.reduceToNat, Int.reduceAdd, Int.reduceSub, Int.reduceMul, Int.reduceNeg, Int.reduceBEq, Nat.reduceAdd, Nat.reduceLT, Nat.reduceEqDiff, F17_0, P17, F25_0, F25_1, P25, F9007_0, P9007, h0, h1, h7, h8, hlt, hr, k0, k1, e17, e25, x0, x1, e2, hcl, hcl2, hi]
            have g1 : now < b := hrg.2.2.1
            have g3 : 0 ≤ i ∧ i < ((dc tc).length : Int) := by omega
            exact ⟨⟨g3, fun _ => hnx⟩, g1⟩
        · simp (disch := omega) only [es_L7, ewA, preC, binI, dvI, shI, cmpB, env, List.map_cons, List.map_nil, List.getD_cons_succ, List.getD_cons_zero, List.getElem?_cons_zero, List.getElem?_cons_succ, bi, List.headD, List.tail, List.map, List.nil_append, List.cons_append, Int.toNat_zero, Int.toNat_one, Int.toNat_natCast, Nat.zero_add, Nat.reduceAdd, ewB, pdec, pndec, Int.not_lt, Int.not_le, if_true, if_false, ite_true, ite_false, true_and, and_true, false_and, and_false, true_implies, implies_true, false_implies, forall_const, not_true_eq_false, not_false_eq_true, ne_eq, reduceCtorEq, List.take_length, List.drop_zero, Int.reduceEq, Int.reduceLT, Int.reduceLE, Int.reduceToNat, Int.reduceAdd, Int.reduceSub, Int.reduceMul, Int.reduceNeg, Int.reduceBEq, Nat.reduceAdd, Nat.reduceLT, Nat.reduceEqDiff, F17_0, P17, F25_0, F25_1, P25, F9007_0, P9007, h0, h1, h7, h8, hlt, hr, k0, k1, e17, e25, x0, x1, e1]
          show K.b.norm (b2i (i2b kn || ((dc c).drop i.toNat).any fun r => idR r == id)) = K.b.norm (b2i (i2b (b2i (i2b kn || a == id)) || ((dc c).drop (i + 1).toNat).any fun r => idR r == id))
          rw [p2, ← p3, hrd, List.any_cons, i2b_b2i, Bool.or_assoc]
          rfl
    · have hd : (dc c).drop i.toNat = [] := List.drop_of_length_le (by rw [p2]; omega)
      refine ⟨?_, ?_, trivial⟩
      · simp (disch := omega) only [ob_L7, ewA, preC, binI, dvI, shI, cmpB, env, List.map_cons, List.map_nil, List.getD_cons_succ, List.getD_cons_zero, List.getElem?_cons_zero, List.getElem?_cons_succ, bi, List.headD, List.tail, List.map, List.nil_append, List.cons_append, Int.toNat_zero, Int.toNat_one, Int.toNat_natCast, Nat.zero_add, Nat.reduceAdd, ewB, pdec, pndec, Int.not_lt, Int.not_le, if_true, if_false, ite_true, ite_false, true_and, and_true, false_and, and_false, true_implies, implies_true, false_implies, forall_const, not_true_eq_false, not_false_eq_true, ne_eq, reduceCtorEq, List.take_length, List.drop_zero, Int.reduceEq, Int.reduceLT, Int.reduceLE, Int.reduceToNat, Int.reduceAdd, Int.reduceSub, Int.reduceMul, Int.reduceNeg, Int.reduceBEq, Nat.reduceAdd, Nat.reduceLT, Nat.reduceEqDiff, F17_0, P17, F25_0, F25_1, P25, F9007_0, P9007, h0, h7, h8, hlt]
      · simp (disch := omega) only [es_L7, ewA, preC, binI, dvI, shI, cmpB, env, List.map_cons, List.map_nil, List.getD_cons_succ, List.getD_cons_zero, List.getElem?_cons_zero, List.getElem?_cons_succ, bi, List.headD, List.tail, List.map, List.nil_append, List.cons_append, Int.toNat_zero, Int.toNat_one, Int.toNat_natCast, Nat.zero_add, Nat.reduceAdd, ewB, pdec, pndec, Int.not_lt, Int.not_le, if_true, if_false, ite_true, ite_false, true_and, and_true, false_and, and_false, true_implies, implies_true, false_implies, forall_const, not_true_eq_false, not_false_eq_true, ne_eq, reduceCtorEq, List.take_length, List.drop_zero, Int.reduceEq, Int.reduceLT, Int.reduceLE, Int.reduceToNat, Int.reduceAdd, Int.reduceSub, Int.reduceMul, Int.reduceNeg, Int.reduceBEq, Nat.reduceAdd, Nat.reduceLT, Nat.reduceEqDiff, F17_0, P17, F25_0, F25_1, P25, F9007_0, P9007, h0, h7, h8, hlt, e1]
        show K.b.norm (b2i (i2b kn || ((dc c).drop i.toNat).any fun r => idR r == id)) = K.b.norm kn
        rw [hd]
        simp only [List.any_nil, Bool.or_false]
        by_cases hk : kn = 0
        · rw [hk]; rfl
        · have hk' : (kn == 0) = false := by simpa using hk
          simp [K.norm, i2b, b2i, hk, hk']

theorem cQ7ok : cQ7.OK Try.prog G0 := by
  have h1 : Ctx.OK Try.prog G0 ⟨e25 :: e13 :: e12 :: cE.fs, []⟩ := ((cEok.addF ok12 rfl).addF ok13 rfl).addF ok25 rfl
  exact (h1.addL lo7 rfl).sub rfl (by simp [cQ7, cE]) (by simp [cQ7])

set_option maxHeartbeats 4000000 in
theorem ok7 : EntryOK Try.prog G0 e7 := cQ7ok.entryP mixed ev_7 _ rfl _ rfl fun xs hf hp => by
  obtain ⟨l, hl, hF⟩ := ctx_P (l0 := cQ7.l)
  show ob_7.tt cQ7.l.F _ = true ∧ outsP e7.fn _ cQ7.l.F _ _ _ _
  rw [hl]
  have P12 := (hF e12 (by rfl) (by decide)).2
  replace P12 : ∀ xs, (i2b (K.b.norm (l.F 12 1000000 xs)) = true) = _ := P12
  have F13_0 : ∀ xs, l.F 13 0 xs = e13.fn 0 xs := (hF e13 (by rfl) (by decide)).1 0 rfl
  have F13_1 : ∀ xs, l.F 13 1 xs = e13.fn 1 xs := (hF e13 (by rfl) (by decide)).1 1 rfl
  have F13_2 : ∀ xs, l.F 13 2 xs = e13.fn 2 xs := (hF e13 (by rfl) (by decide)).1 2 rfl
  have P13 := (hF e13 (by rfl) (by decide)).2
  replace P13 : ∀ xs, (i2b (K.b.norm (l.F 13 1000000 xs)) = true) = _ := P13
  have F14_0 : ∀ xs, l.F 14 0 xs = e14.fn 0 xs := (hF e14 (by rfl) (by decide)).1 0 rfl
  have P14 := (hF e14 (by rfl) (by decide)).2
  replace P14 : ∀ xs, (i2b (K.b.norm (l.F 14 1000000 xs)) = true) = _ := P14
  have F19_0 : ∀ xs, l.F 19 0 xs = e19.fn 0 xs := (hF e19 (by rfl) (by decide)).1 0 rfl
  have P19 := (hF e19 (by rfl) (by decide)).2
  replace P19 : ∀ xs, (i2b (K.b.norm (l.F 19 1000000 xs)) = true) = _ := P19
  have F23_0 : ∀ xs, l.F 23 0 xs = e23.fn 0 xs := (hF e23 (by rfl) (by decide)).1 0 rfl
  have F23_1 : ∀ xs, l.F 23 1 xs = e23.fn 1 xs := (hF e23 (by rfl) (by decide)).1 1 rfl
  have F23_2 : ∀ xs, l.F 23 2 xs = e23.fn 2 xs := (hF e23 (by rfl) (by decide)).1 2 rfl
  have P23 := (hF e23 (by rfl) (by decide)).2
  replace P23 : ∀ xs, (i2b (K.b.norm (l.F 23 1000000 xs)) = true) = _ := P23
  have F25_1 : ∀ xs, l.F 25 1 xs = e25.fn 1 xs := (hF e25 (by rfl) (by decide)).1 1 rfl
  have P25 := (hF e25 (by rfl) (by decide)).2
  replace P25 : ∀ xs, (i2b (K.b.norm (l.F 25 1000000 xs)) = true) = _ := P25
  have F9007_0 : ∀ xs, l.F 9007 0 xs = le7.ent.fn 0 xs := (hF le7.ent (by rfl) (by decide)).1 0 rfl
  have P9007 := (hF le7.ent (by rfl) (by decide)).2
  replace P9007 : ∀ xs, (i2b (K.b.norm (l.F 9007 1000000 xs)) = true) = _ := P9007
  match xs, hf with
  | [t, c, k], hf =>
    obtain ⟨h0, h1, h2, _⟩ := hf
    simp only [norm_i, norm_x] at h0 h2
    have hp' := hp
    refine ⟨?_, trivial⟩
    obtain ⟨q1, q2, q3⟩ := madM_ok t (dc c)
    have ht := q1.tim
    have hlen := q1.len
    have x0 : fn13 0 [t, c] = (madM t (dc c)).1 := rfl
    have x1 : fn13 1 [t, c] = (madM t (dc c)).2.1 := rfl
    have x2 : fn13 2 [t, c] = (madM t (dc c)).2.2 := rfl
    rcases hq : madM t (dc c) with ⟨now, tc, mc⟩
    rw [hq] at q1 q2 q3 ht hlen x0 x1 x2
    simp only at q1 q2 q3 ht hlen x0 x1 x2
    have y7 : ∀ x m, fn7 0 [k, now, tc, mc, tc, x, tc, m, 0] = b2i (i2b x || (dc tc).any fun r => idR r == k) := fun x m => rfl
    have hany : ((dc tc).any fun r => idR r == k) = hasM (dc mc) k := by
      rw [Bool.eq_iff_iff]
      refine Iff.trans ?_ (q1.has k).symm
      rw [List.any_eq_true]
      constructor
      · rintro ⟨r, hr, he⟩
        obtain ⟨i, d, rfl, _⟩ := row_eq (q1.row r hr)
        have : i = k := by simpa [idR] using he
        exact ⟨d, by rw [← this]; exact hr⟩
      · rintro ⟨d, hd⟩
        exact ⟨_, hd, by simp [idR]⟩
    simp (disch := omega) only [ob_7, ewA, preC, binI, dvI, shI, cmpB, env, List.map_cons, List.map_nil, List.getD_cons_succ, List.getD_cons_zero, List.getElem?_cons_zero, List.getElem?_cons_succ, bi, List.headD, List.tail, List.map, List.nil_append, List.cons_append, Int.toNat_zero, Int.toNat_one, Int.toNat_natCast, Nat.zero_add, Nat.reduceAdd, ewB, pdec, pndec, Int.not_lt, Int.not_le, if_true, if_false, ite_true, ite_false, true_and, and_true, false_and, and_false, true_implies, implies_true, false_implies, forall_const, not_true_eq_false, not_false_eq_true, ne_eq, reduceCtorEq, List.take_length, List.drop_zero, Int.reduceEq, Int.reduceLT, Int.reduceLE, Int.reduceToNat, Int.reduceAdd, Int.reduceSub, Int.reduceMul, Int.reduceNeg, Int.reduceBEq, Nat.reduceAdd, Nat.reduceLT, Nat.reduceEqDiff, P12, F13_0, F13_1, F13_2, P13, F14_0, P14, F19_0, P19, F23_0, F23_1, F23_2, P23, F25_1, P25, F9007_0, P9007, h0, h2, e12, e13, e14, e19, e23, e25, le7, x0, x1, x2, y7, hany]
    have f25 : fn25 1 [now, tc, mc, k] = b2i (hasM (dc mc) k) := rfl
    have f23 : fn23 2 [now, tc, mc] = b2i (decide (0 < ((dc tc).length : Int))) := by
      show b2i (decide ((dc tc).length ≠ 0)) = _
      congr 1
      rw [decide_eq_decide]
      omega
    have g0 : fn23 0 [now, tc, mc] = ((dc tc).getD 0 []).getD 0 0 := rfl
    have g1 : fn23 1 [now, tc, mc] = ((dc tc).getD 0 []).getD 1 0 := rfl
    rw [f25, f23, g0, g1, norm_b2i, norm_b2i, Bool.false_or]
    refine ⟨⟨hp', q1, ⟨q1, rfl, rfl, rfl, by show (0 : Int) ≤ 0; omega, by show (0 : Int) ≤ ((dc tc).length : Int); omega⟩, q1, fun h => ?_⟩, ⟨rfl, rfl⟩, fun _ => ⟨rfl, rfl⟩⟩
    have := h.2
    rw [i2b_b2i, decide_eq_true_eq] at this
    exact this

end
end Go.Proofs.Ytmolkkphnehgcaa.Ew
