/- Layer 17: QueueAnyOrder. -/
import Derived.Test.YtmolkkphnehgcaaQn
set_option linter.unusedVariables false
set_option linter.unusedSimpArgs false
namespace Go.Proofs.Ytmolkkphnehgcaa.Ew
open Go Go.RowKit
noncomputable section
--P Try.prog G0

def p4a : List Bool := [true,true,true,true,true,true,true,false,true,false]
def p4b : List Bool := [true,true,true,true,true,true,true,true,false,true,false]
abbrev Q3 := Int × Int × Int
def armQ (q : Q3) (i d : Int) : Q3 := (q.1, fn21 1 [q.1, q.2.1, q.2.2, i, d], fn21 2 [q.1, q.2.1, q.2.2, i, d])
def get3 : Nat → Q3 → Int
  | 0, q => q.1
  | 1, q => q.2.1
  | _, q => q.2.2
/-- The timers of a list, one by one, with other deadlines. -/
def runA (o : Int) : Int → RL → Q3 → Q3
  | _, [], q => q
  | i, r :: l, q => runA o (i + 1) l (armQ q (idR r) (q.1 + 1 + IntKind.i64.wrap (o + i) % 5000))
def runB : RL → Q3 → Q3
  | [], q => q
  | r :: l, q => runB l (armQ q (idR r) (dlR r))
def fn4a (j : Nat) (xs : List Int) : Int := get3 j (runA (env xs 0) (env xs 9) ((dc (env xs 7)).drop (env xs 9).toNat) (env xs 4, env xs 5, env xs 6))
def pre4a (xs : List Int) : Prop := QI (env xs 1) (dc (env xs 2)) (dc (env xs 3)) ∧ QI (env xs 4) (dc (env xs 5)) (dc (env xs 6)) ∧ env xs 1 = env xs 4 ∧ dc (env xs 7) = dc (env xs 2) ∧ env xs 8 = ((dc (env xs 2)).length : Int) ∧ 0 ≤ env xs 9 ∧ env xs 9 ≤ env xs 8
def mu4a (xs : List Int) : Nat := (env xs 8 - env xs 9).toNat
def le4a : LEnt := ⟨⟨9004, 999999, [i64, .lt .b 0, qo, qo, ls34, i64, i64], [{ j := 3, ty := 55, cs := qcs }], [0, 1, 2, 6], .tup [.lt .b 0], fn4a, pre4a⟩, [2, 6, 7, 10, 44, 45, 46], [6], [12, 13] ++ (List.range 19).map (· + 46), [.ex 0], 100, [44]⟩
def fn4b (j : Nat) (xs : List Int) : Int := get3 j (runB ((dc (env xs 0)).reverse.drop (env xs 5).toNat) (env xs 1, env xs 2, env xs 3))
def pre4b (xs : List Int) : Prop := QI (env xs 1) (dc (env xs 2)) (dc (env xs 3)) ∧ (∃ M, QI (env xs 1) (dc (env xs 0)) M) ∧ env xs 4 = ((dc (env xs 0)).length : Int) ∧ 0 ≤ env xs 5 ∧ env xs 5 ≤ env xs 4
def mu4b (xs : List Int) : Nat := (env xs 4 - env xs 5).toNat
def le4b : LEnt := ⟨⟨9104, 999999, [.lt .b 0, ls34, qo, i64, i64], [{ j := 1, ty := 55, cs := qcs }], [0], .tup [.lt .b 0], fn4b, pre4b⟩, [6, 9, 10, 66, 67], [6], [14, 15] ++ (List.range 19).map (· + 67), [.ex 2], 100, [9]⟩
def preA (xs : List Int) : Prop := rowsOK actK (dc (env xs 1)) ∧ ((dc (env xs 1)).length : Int) ≤ 9223372036854775807
def e4 : Ent := ⟨4, 4, [i64, acts, i64], [], [0], .lt .b 1, fun _ _ => 0, preA⟩
def c4a : Ctx := ⟨[e15, e17, e21], []⟩
def cQ4 : Ctx := ⟨[e12, e13, e14, e17, e18, e20, e21, e22], [(4, p4a, le4a), (4, p4b, le4b)]⟩
def cQ4n : Ctx := cQ4.nm

def ob_L4a : E := (.and (.and (.or (.not (.cmp .lss (.var (.i .i64) 9) (.var (.i .i64) 8))) (.and (.and (.cmp .geq (.var (.i .i64) 9) (.lit (.i .i64) 0)) (.cmp .lss (.var (.i .i64) 9) (.app (.i .i64) 0 0 [(.var .x 7)]))) (.and (.app .b 17 1000000 [(.var (.i .i64) 1), (.var .x 2), (.var .x 3)]) (.and (.app .b 15 1000000 [(.bin .add .i64 (.var (.i .i64) 0) (.var (.i .i64) 9)), (.lit (.i .i64) 5000)]) (.app .b 21 1000000 [(.var (.i .i64) 4), (.var .x 5), (.var .x 6), (.app (.i .i64) 0 1 [(.var .x 7), (.var (.i .i64) 9), (.lit .x 0)]), (.bin .add .i64 (.bin .add .i64 (.app (.i .i64) 17 0 [(.var (.i .i64) 1), (.var .x 2), (.var .x 3)]) (.lit (.i .i64) 1)) (.app (.i .i64) 15 0 [(.bin .add .i64 (.var (.i .i64) 0) (.var (.i .i64) 9)), (.lit (.i .i64) 5000)]))]))))) (.or (.not (.and (.cmp .lss (.var (.i .i64) 9) (.var (.i .i64) 8)) (.not (.cmp .neq (.app (.i .i64) 21 3 [(.var (.i .i64) 4), (.var .x 5), (.var .x 6), (.app (.i .i64) 0 1 [(.var .x 7), (.var (.i .i64) 9), (.lit .x 0)]), (.bin .add .i64 (.bin .add .i64 (.app (.i .i64) 17 0 [(.var (.i .i64) 1), (.var .x 2), (.var .x 3)]) (.lit (.i .i64) 1)) (.app (.i .i64) 15 0 [(.bin .add .i64 (.var (.i .i64) 0) (.var (.i .i64) 9)), (.lit (.i .i64) 5000)]))]) (.lit (.i .i64) 0))))) (.app .b 9004 1000000 [(.var (.i .i64) 0), (.var (.i .i64) 1), (.var .x 2), (.var .x 3), (.app (.i .i64) 21 0 [(.var (.i .i64) 4), (.var .x 5), (.var .x 6), (.app (.i .i64) 0 1 [(.var .x 7), (.var (.i .i64) 9), (.lit .x 0)]), (.bin .add .i64 (.bin .add .i64 (.app (.i .i64) 17 0 [(.var (.i .i64) 1), (.var .x 2), (.var .x 3)]) (.lit (.i .i64) 1)) (.app (.i .i64) 15 0 [(.bin .add .i64 (.var (.i .i64) 0) (.var (.i .i64) 9)), (.lit (.i .i64) 5000)]))]), (.app .x 21 1 [(.var (.i .i64) 4), (.var .x 5), (.var .x 6), (.app (.i .i64) 0 1 [(.var .x 7), (.var (.i .i64) 9), (.lit .x 0)]), (.bin .add .i64 (.bin .add .i64 (.app (.i .i64) 17 0 [(.var (.i .i64) 1), (.var .x 2), (.var .x 3)]) (.lit (.i .i64) 1)) (.app (.i .i64) 15 0 [(.bin .add .i64 (.var (.i .i64) 0) (.var (.i .i64) 9)), (.lit (.i .i64) 5000)]))]), (.app .x 21 2 [(.var (.i .i64) 4), (.var .x 5), (.var .x 6), (.app (.i .i64) 0 1 [(.var .x 7), (.var (.i .i64) 9), (.lit .x 0)]), (.bin .add .i64 (.bin .add .i64 (.app (.i .i64) 17 0 [(.var (.i .i64) 1), (.var .x 2), (.var .x 3)]) (.lit (.i .i64) 1)) (.app (.i .i64) 15 0 [(.bin .add .i64 (.var (.i .i64) 0) (.var (.i .i64) 9)), (.lit (.i .i64) 5000)]))]), (.var .x 7), (.var (.i .i64) 8), (.bin .add .i64 (.var (.i .i64) 9) (.lit (.i .i64) 1))]))) (.and (.or (.not (.or (.not (.cmp .lss (.var (.i .i64) 9) (.var (.i .i64) 8))) (.and (.cmp .lss (.var (.i .i64) 9) (.var (.i .i64) 8)) (.not (.cmp .neq (.app (.i .i64) 21 3 [(.var (.i .i64) 4), (.var .x 5), (.var .x 6), (.app (.i .i64) 0 1 [(.var .x 7), (.var (.i .i64) 9), (.lit .x 0)]), (.bin .add .i64 (.bin .add .i64 (.app (.i .i64) 17 0 [(.var (.i .i64) 1), (.var .x 2), (.var .x 3)]) (.lit (.i .i64) 1)) (.app (.i .i64) 15 0 [(.bin .add .i64 (.var (.i .i64) 0) (.var (.i .i64) 9)), (.lit (.i .i64) 5000)]))]) (.lit (.i .i64) 0)))))) (.ite (.not (.cmp .lss (.var (.i .i64) 9) (.var (.i .i64) 8))) (.not (.cmp .lss (.var (.i .i64) 9) (.var (.i .i64) 8))) (.cmp .lss (.var (.i .i64) 9) (.var (.i .i64) 8)))) (.not (.and (.cmp .lss (.var (.i .i64) 9) (.var (.i .i64) 8)) (.cmp .neq (.app (.i .i64) 21 3 [(.var (.i .i64) 4), (.var .x 5), (.var .x 6), (.app (.i .i64) 0 1 [(.var .x 7), (.var (.i .i64) 9), (.lit .x 0)]), (.bin .add .i64 (.bin .add .i64 (.app (.i .i64) 17 0 [(.var (.i .i64) 1), (.var .x 2), (.var .x 3)]) (.lit (.i .i64) 1)) (.app (.i .i64) 15 0 [(.bin .add .i64 (.var (.i .i64) 0) (.var (.i .i64) 9)), (.lit (.i .i64) 5000)]))]) (.lit (.i .i64) 0))))))
def es_L4a : List E := [(.ite (.not (.cmp .lss (.var (.i .i64) 9) (.var (.i .i64) 8))) (.var (.i .i64) 4) (.app (.i .i64) 9004 0 [(.var (.i .i64) 0), (.var (.i .i64) 1), (.var .x 2), (.var .x 3), (.app (.i .i64) 21 0 [(.var (.i .i64) 4), (.var .x 5), (.var .x 6), (.app (.i .i64) 0 1 [(.var .x 7), (.var (.i .i64) 9), (.lit .x 0)]), (.bin .add .i64 (.bin .add .i64 (.app (.i .i64) 17 0 [(.var (.i .i64) 1), (.var .x 2), (.var .x 3)]) (.lit (.i .i64) 1)) (.app (.i .i64) 15 0 [(.bin .add .i64 (.var (.i .i64) 0) (.var (.i .i64) 9)), (.lit (.i .i64) 5000)]))]), (.app .x 21 1 [(.var (.i .i64) 4), (.var .x 5), (.var .x 6), (.app (.i .i64) 0 1 [(.var .x 7), (.var (.i .i64) 9), (.lit .x 0)]), (.bin .add .i64 (.bin .add .i64 (.app (.i .i64) 17 0 [(.var (.i .i64) 1), (.var .x 2), (.var .x 3)]) (.lit (.i .i64) 1)) (.app (.i .i64) 15 0 [(.bin .add .i64 (.var (.i .i64) 0) (.var (.i .i64) 9)), (.lit (.i .i64) 5000)]))]), (.app .x 21 2 [(.var (.i .i64) 4), (.var .x 5), (.var .x 6), (.app (.i .i64) 0 1 [(.var .x 7), (.var (.i .i64) 9), (.lit .x 0)]), (.bin .add .i64 (.bin .add .i64 (.app (.i .i64) 17 0 [(.var (.i .i64) 1), (.var .x 2), (.var .x 3)]) (.lit (.i .i64) 1)) (.app (.i .i64) 15 0 [(.bin .add .i64 (.var (.i .i64) 0) (.var (.i .i64) 9)), (.lit (.i .i64) 5000)]))]), (.var .x 7), (.var (.i .i64) 8), (.bin .add .i64 (.var (.i .i64) 9) (.lit (.i .i64) 1))])), (.ite (.not (.cmp .lss (.var (.i .i64) 9) (.var (.i .i64) 8))) (.var .x 5) (.app .x 9004 1 [(.var (.i .i64) 0), (.var (.i .i64) 1), (.var .x 2), (.var .x 3), (.app (.i .i64) 21 0 [(.var (.i .i64) 4), (.var .x 5), (.var .x 6), (.app (.i .i64) 0 1 [(.var .x 7), (.var (.i .i64) 9), (.lit .x 0)]), (.bin .add .i64 (.bin .add .i64 (.app (.i .i64) 17 0 [(.var (.i .i64) 1), (.var .x 2), (.var .x 3)]) (.lit (.i .i64) 1)) (.app (.i .i64) 15 0 [(.bin .add .i64 (.var (.i .i64) 0) (.var (.i .i64) 9)), (.lit (.i .i64) 5000)]))]), (.app .x 21 1 [(.var (.i .i64) 4), (.var .x 5), (.var .x 6), (.app (.i .i64) 0 1 [(.var .x 7), (.var (.i .i64) 9), (.lit .x 0)]), (.bin .add .i64 (.bin .add .i64 (.app (.i .i64) 17 0 [(.var (.i .i64) 1), (.var .x 2), (.var .x 3)]) (.lit (.i .i64) 1)) (.app (.i .i64) 15 0 [(.bin .add .i64 (.var (.i .i64) 0) (.var (.i .i64) 9)), (.lit (.i .i64) 5000)]))]), (.app .x 21 2 [(.var (.i .i64) 4), (.var .x 5), (.var .x 6), (.app (.i .i64) 0 1 [(.var .x 7), (.var (.i .i64) 9), (.lit .x 0)]), (.bin .add .i64 (.bin .add .i64 (.app (.i .i64) 17 0 [(.var (.i .i64) 1), (.var .x 2), (.var .x 3)]) (.lit (.i .i64) 1)) (.app (.i .i64) 15 0 [(.bin .add .i64 (.var (.i .i64) 0) (.var (.i .i64) 9)), (.lit (.i .i64) 5000)]))]), (.var .x 7), (.var (.i .i64) 8), (.bin .add .i64 (.var (.i .i64) 9) (.lit (.i .i64) 1))])), (.ite (.not (.cmp .lss (.var (.i .i64) 9) (.var (.i .i64) 8))) (.var .x 6) (.app .x 9004 2 [(.var (.i .i64) 0), (.var (.i .i64) 1), (.var .x 2), (.var .x 3), (.app (.i .i64) 21 0 [(.var (.i .i64) 4), (.var .x 5), (.var .x 6), (.app (.i .i64) 0 1 [(.var .x 7), (.var (.i .i64) 9), (.lit .x 0)]), (.bin .add .i64 (.bin .add .i64 (.app (.i .i64) 17 0 [(.var (.i .i64) 1), (.var .x 2), (.var .x 3)]) (.lit (.i .i64) 1)) (.app (.i .i64) 15 0 [(.bin .add .i64 (.var (.i .i64) 0) (.var (.i .i64) 9)), (.lit (.i .i64) 5000)]))]), (.app .x 21 1 [(.var (.i .i64) 4), (.var .x 5), (.var .x 6), (.app (.i .i64) 0 1 [(.var .x 7), (.var (.i .i64) 9), (.lit .x 0)]), (.bin .add .i64 (.bin .add .i64 (.app (.i .i64) 17 0 [(.var (.i .i64) 1), (.var .x 2), (.var .x 3)]) (.lit (.i .i64) 1)) (.app (.i .i64) 15 0 [(.bin .add .i64 (.var (.i .i64) 0) (.var (.i .i64) 9)), (.lit (.i .i64) 5000)]))]), (.app .x 21 2 [(.var (.i .i64) 4), (.var .x 5), (.var .x 6), (.app (.i .i64) 0 1 [(.var .x 7), (.var (.i .i64) 9), (.lit .x 0)]), (.bin .add .i64 (.bin .add .i64 (.app (.i .i64) 17 0 [(.var (.i .i64) 1), (.var .x 2), (.var .x 3)]) (.lit (.i .i64) 1)) (.app (.i .i64) 15 0 [(.bin .add .i64 (.var (.i .i64) 0) (.var (.i .i64) 9)), (.lit (.i .i64) 5000)]))]), (.var .x 7), (.var (.i .i64) 8), (.bin .add .i64 (.var (.i .i64) 9) (.lit (.i .i64) 1))]))]
theorem ev_L4a : evL Try.prog G0 (tabOf c4a.fs) (evFn Try.prog G0 (tabOf c4a.fs) (ltOf c4a.ls) 40 10) 40 (subL c4a.ls 4 p4a) le4a (bodyAt Try.prog 4 p4a) = some (ob_L4a, es_L4a) := by kernel_rfl

def ob_L4b : E := (.and (.and (.or (.not (.cmp .lss (.var (.i .i64) 5) (.var (.i .i64) 4))) (.and (.and (.cmp .geq (.bin .sub .i64 (.bin .sub .i64 (.app (.i .i64) 0 0 [(.var .x 0)]) (.lit (.i .i64) 1)) (.var (.i .i64) 5)) (.lit (.i .i64) 0)) (.cmp .lss (.bin .sub .i64 (.bin .sub .i64 (.app (.i .i64) 0 0 [(.var .x 0)]) (.lit (.i .i64) 1)) (.var (.i .i64) 5)) (.app (.i .i64) 0 0 [(.var .x 0)]))) (.app .b 21 1000000 [(.var (.i .i64) 1), (.var .x 2), (.var .x 3), (.app (.i .i64) 0 1 [(.var .x 0), (.bin .sub .i64 (.bin .sub .i64 (.app (.i .i64) 0 0 [(.var .x 0)]) (.lit (.i .i64) 1)) (.var (.i .i64) 5)), (.lit .x 0)]), (.app (.i .i64) 0 1 [(.var .x 0), (.bin .sub .i64 (.bin .sub .i64 (.app (.i .i64) 0 0 [(.var .x 0)]) (.lit (.i .i64) 1)) (.var (.i .i64) 5)), (.lit .x 1)])]))) (.or (.not (.and (.cmp .lss (.var (.i .i64) 5) (.var (.i .i64) 4)) (.not (.cmp .neq (.app (.i .i64) 21 3 [(.var (.i .i64) 1), (.var .x 2), (.var .x 3), (.app (.i .i64) 0 1 [(.var .x 0), (.bin .sub .i64 (.bin .sub .i64 (.app (.i .i64) 0 0 [(.var .x 0)]) (.lit (.i .i64) 1)) (.var (.i .i64) 5)), (.lit .x 0)]), (.app (.i .i64) 0 1 [(.var .x 0), (.bin .sub .i64 (.bin .sub .i64 (.app (.i .i64) 0 0 [(.var .x 0)]) (.lit (.i .i64) 1)) (.var (.i .i64) 5)), (.lit .x 1)])]) (.lit (.i .i64) 0))))) (.app .b 9104 1000000 [(.var .x 0), (.app (.i .i64) 21 0 [(.var (.i .i64) 1), (.var .x 2), (.var .x 3), (.app (.i .i64) 0 1 [(.var .x 0), (.bin .sub .i64 (.bin .sub .i64 (.app (.i .i64) 0 0 [(.var .x 0)]) (.lit (.i .i64) 1)) (.var (.i .i64) 5)), (.lit .x 0)]), (.app (.i .i64) 0 1 [(.var .x 0), (.bin .sub .i64 (.bin .sub .i64 (.app (.i .i64) 0 0 [(.var .x 0)]) (.lit (.i .i64) 1)) (.var (.i .i64) 5)), (.lit .x 1)])]), (.app .x 21 1 [(.var (.i .i64) 1), (.var .x 2), (.var .x 3), (.app (.i .i64) 0 1 [(.var .x 0), (.bin .sub .i64 (.bin .sub .i64 (.app (.i .i64) 0 0 [(.var .x 0)]) (.lit (.i .i64) 1)) (.var (.i .i64) 5)), (.lit .x 0)]), (.app (.i .i64) 0 1 [(.var .x 0), (.bin .sub .i64 (.bin .sub .i64 (.app (.i .i64) 0 0 [(.var .x 0)]) (.lit (.i .i64) 1)) (.var (.i .i64) 5)), (.lit .x 1)])]), (.app .x 21 2 [(.var (.i .i64) 1), (.var .x 2), (.var .x 3), (.app (.i .i64) 0 1 [(.var .x 0), (.bin .sub .i64 (.bin .sub .i64 (.app (.i .i64) 0 0 [(.var .x 0)]) (.lit (.i .i64) 1)) (.var (.i .i64) 5)), (.lit .x 0)]), (.app (.i .i64) 0 1 [(.var .x 0), (.bin .sub .i64 (.bin .sub .i64 (.app (.i .i64) 0 0 [(.var .x 0)]) (.lit (.i .i64) 1)) (.var (.i .i64) 5)), (.lit .x 1)])]), (.var (.i .i64) 4), (.bin .add .i64 (.var (.i .i64) 5) (.lit (.i .i64) 1))]))) (.and (.or (.not (.or (.not (.cmp .lss (.var (.i .i64) 5) (.var (.i .i64) 4))) (.and (.cmp .lss (.var (.i .i64) 5) (.var (.i .i64) 4)) (.not (.cmp .neq (.app (.i .i64) 21 3 [(.var (.i .i64) 1), (.var .x 2), (.var .x 3), (.app (.i .i64) 0 1 [(.var .x 0), (.bin .sub .i64 (.bin .sub .i64 (.app (.i .i64) 0 0 [(.var .x 0)]) (.lit (.i .i64) 1)) (.var (.i .i64) 5)), (.lit .x 0)]), (.app (.i .i64) 0 1 [(.var .x 0), (.bin .sub .i64 (.bin .sub .i64 (.app (.i .i64) 0 0 [(.var .x 0)]) (.lit (.i .i64) 1)) (.var (.i .i64) 5)), (.lit .x 1)])]) (.lit (.i .i64) 0)))))) (.ite (.not (.cmp .lss (.var (.i .i64) 5) (.var (.i .i64) 4))) (.not (.cmp .lss (.var (.i .i64) 5) (.var (.i .i64) 4))) (.cmp .lss (.var (.i .i64) 5) (.var (.i .i64) 4)))) (.not (.and (.cmp .lss (.var (.i .i64) 5) (.var (.i .i64) 4)) (.cmp .neq (.app (.i .i64) 21 3 [(.var (.i .i64) 1), (.var .x 2), (.var .x 3), (.app (.i .i64) 0 1 [(.var .x 0), (.bin .sub .i64 (.bin .sub .i64 (.app (.i .i64) 0 0 [(.var .x 0)]) (.lit (.i .i64) 1)) (.var (.i .i64) 5)), (.lit .x 0)]), (.app (.i .i64) 0 1 [(.var .x 0), (.bin .sub .i64 (.bin .sub .i64 (.app (.i .i64) 0 0 [(.var .x 0)]) (.lit (.i .i64) 1)) (.var (.i .i64) 5)), (.lit .x 1)])]) (.lit (.i .i64) 0))))))
def es_L4b : List E := [(.ite (.not (.cmp .lss (.var (.i .i64) 5) (.var (.i .i64) 4))) (.var (.i .i64) 1) (.app (.i .i64) 9104 0 [(.var .x 0), (.app (.i .i64) 21 0 [(.var (.i .i64) 1), (.var .x 2), (.var .x 3), (.app (.i .i64) 0 1 [(.var .x 0), (.bin .sub .i64 (.bin .sub .i64 (.app (.i .i64) 0 0 [(.var .x 0)]) (.lit (.i .i64) 1)) (.var (.i .i64) 5)), (.lit .x 0)]), (.app (.i .i64) 0 1 [(.var .x 0), (.bin .sub .i64 (.bin .sub .i64 (.app (.i .i64) 0 0 [(.var .x 0)]) (.lit (.i .i64) 1)) (.var (.i .i64) 5)), (.lit .x 1)])]), (.app .x 21 1 [(.var (.i .i64) 1), (.var .x 2), (.var .x 3), (.app (.i .i64) 0 1 [(.var .x 0), (.bin .sub .i64 (.bin .sub .i64 (.app (.i .i64) 0 0 [(.var .x 0)]) (.lit (.i .i64) 1)) (.var (.i .i64) 5)), (.lit .x 0)]), (.app (.i .i64) 0 1 [(.var .x 0), (.bin .sub .i64 (.bin .sub .i64 (.app (.i .i64) 0 0 [(.var .x 0)]) (.lit (.i .i64) 1)) (.var (.i .i64) 5)), (.lit .x 1)])]), (.app .x 21 2 [(.var (.i .i64) 1), (.var .x 2), (.var .x 3), (.app (.i .i64) 0 1 [(.var .x 0), (.bin .sub .i64 (.bin .sub .i64 (.app (.i .i64) 0 0 [(.var .x 0)]) (.lit (.i .i64) 1)) (.var (.i .i64) 5)), (.lit .x 0)]), (.app (.i .i64) 0 1 [(.var .x 0), (.bin .sub .i64 (.bin .sub .i64 (.app (.i .i64) 0 0 [(.var .x 0)]) (.lit (.i .i64) 1)) (.var (.i .i64) 5)), (.lit .x 1)])]), (.var (.i .i64) 4), (.bin .add .i64 (.var (.i .i64) 5) (.lit (.i .i64) 1))])), (.ite (.not (.cmp .lss (.var (.i .i64) 5) (.var (.i .i64) 4))) (.var .x 2) (.app .x 9104 1 [(.var .x 0), (.app (.i .i64) 21 0 [(.var (.i .i64) 1), (.var .x 2), (.var .x 3), (.app (.i .i64) 0 1 [(.var .x 0), (.bin .sub .i64 (.bin .sub .i64 (.app (.i .i64) 0 0 [(.var .x 0)]) (.lit (.i .i64) 1)) (.var (.i .i64) 5)), (.lit .x 0)]), (.app (.i .i64) 0 1 [(.var .x 0), (.bin .sub .i64 (.bin .sub .i64 (.app (.i .i64) 0 0 [(.var .x 0)]) (.lit (.i .i64) 1)) (.var (.i .i64) 5)), (.lit .x 1)])]), (.app .x 21 1 [(.var (.i .i64) 1), (.var .x 2), (.var .x 3), (.app (.i .i64) 0 1 [(.var .x 0), (.bin .sub .i64 (.bin .sub .i64 (.app (.i .i64) 0 0 [(.var .x 0)]) (.lit (.i .i64) 1)) (.var (.i .i64) 5)), (.lit .x 0)]), (.app (.i .i64) 0 1 [(.var .x 0), (.bin .sub .i64 (.bin .sub .i64 (.app (.i .i64) 0 0 [(.var .x 0)]) (.lit (.i .i64) 1)) (.var (.i .i64) 5)), (.lit .x 1)])]), (.app .x 21 2 [(.var (.i .i64) 1), (.var .x 2), (.var .x 3), (.app (.i .i64) 0 1 [(.var .x 0), (.bin .sub .i64 (.bin .sub .i64 (.app (.i .i64) 0 0 [(.var .x 0)]) (.lit (.i .i64) 1)) (.var (.i .i64) 5)), (.lit .x 0)]), (.app (.i .i64) 0 1 [(.var .x 0), (.bin .sub .i64 (.bin .sub .i64 (.app (.i .i64) 0 0 [(.var .x 0)]) (.lit (.i .i64) 1)) (.var (.i .i64) 5)), (.lit .x 1)])]), (.var (.i .i64) 4), (.bin .add .i64 (.var (.i .i64) 5) (.lit (.i .i64) 1))])), (.ite (.not (.cmp .lss (.var (.i .i64) 5) (.var (.i .i64) 4))) (.var .x 3) (.app .x 9104 2 [(.var .x 0), (.app (.i .i64) 21 0 [(.var (.i .i64) 1), (.var .x 2), (.var .x 3), (.app (.i .i64) 0 1 [(.var .x 0), (.bin .sub .i64 (.bin .sub .i64 (.app (.i .i64) 0 0 [(.var .x 0)]) (.lit (.i .i64) 1)) (.var (.i .i64) 5)), (.lit .x 0)]), (.app (.i .i64) 0 1 [(.var .x 0), (.bin .sub .i64 (.bin .sub .i64 (.app (.i .i64) 0 0 [(.var .x 0)]) (.lit (.i .i64) 1)) (.var (.i .i64) 5)), (.lit .x 1)])]), (.app .x 21 1 [(.var (.i .i64) 1), (.var .x 2), (.var .x 3), (.app (.i .i64) 0 1 [(.var .x 0), (.bin .sub .i64 (.bin .sub .i64 (.app (.i .i64) 0 0 [(.var .x 0)]) (.lit (.i .i64) 1)) (.var (.i .i64) 5)), (.lit .x 0)]), (.app (.i .i64) 0 1 [(.var .x 0), (.bin .sub .i64 (.bin .sub .i64 (.app (.i .i64) 0 0 [(.var .x 0)]) (.lit (.i .i64) 1)) (.var (.i .i64) 5)), (.lit .x 1)])]), (.app .x 21 2 [(.var (.i .i64) 1), (.var .x 2), (.var .x 3), (.app (.i .i64) 0 1 [(.var .x 0), (.bin .sub .i64 (.bin .sub .i64 (.app (.i .i64) 0 0 [(.var .x 0)]) (.lit (.i .i64) 1)) (.var (.i .i64) 5)), (.lit .x 0)]), (.app (.i .i64) 0 1 [(.var .x 0), (.bin .sub .i64 (.bin .sub .i64 (.app (.i .i64) 0 0 [(.var .x 0)]) (.lit (.i .i64) 1)) (.var (.i .i64) 5)), (.lit .x 1)])]), (.var (.i .i64) 4), (.bin .add .i64 (.var (.i .i64) 5) (.lit (.i .i64) 1))]))]
theorem ev_L4b : evL Try.prog G0 (tabOf c4a.fs) (evFn Try.prog G0 (tabOf c4a.fs) (ltOf c4a.ls) 40 10) 40 (subL c4a.ls 4 p4b) le4b (bodyAt Try.prog 4 p4b) = some (ob_L4b, es_L4b) := by kernel_rfl

def defs_4 : List (Nat × E) := [(640000083200064, (.app (.i .i64) 100000013 0 [(.var (.i .i64) 0), (.var .x 1)])),
  (640000083200065, (.app .x 100000013 1 [(.var (.i .i64) 0), (.var .x 1)])),
  (640000083200066, (.app .x 100000013 2 [(.var (.i .i64) 0), (.var .x 1)])),
  (640000089600576, (.app .x 100000014 0 [(.var (.i .i64) 640000083200064), (.var .x 640000083200065), (.var .x 640000083200066)])),
  (640000108801088, (.app (.i .i64) 100000017 0 [(.var (.i .i64) 640000083200064), (.var .x 640000083200065), (.var .x 640000083200066)])),
  (640000128001088, (.app (.i .i64) 100000020 0 [(.var (.i .i64) 640000108801088)])),
  (640000128001089, (.app .x 100000020 1 [(.var (.i .i64) 640000108801088)])),
  (640000128001090, (.app .x 100000020 2 [(.var (.i .i64) 640000108801088)])),
  (640000108801600, (.app (.i .i64) 100000017 0 [(.var (.i .i64) 640000083200064), (.var .x 640000083200065), (.var .x 640000083200066)])),
  (640000134401600, (.app (.i .i64) 100000021 0 [(.var (.i .i64) 640000128001088), (.var .x 640000128001089), (.var .x 640000128001090), (.lit (.i .i64) 100), (.bin .add .i64 (.var (.i .i64) 640000108801600) (.lit (.i .i64) 1))])),
  (640000134401601, (.app .x 100000021 1 [(.var (.i .i64) 640000128001088), (.var .x 640000128001089), (.var .x 640000128001090), (.lit (.i .i64) 100), (.bin .add .i64 (.var (.i .i64) 640000108801600) (.lit (.i .i64) 1))])),
  (640000134401602, (.app .x 100000021 2 [(.var (.i .i64) 640000128001088), (.var .x 640000128001089), (.var .x 640000128001090), (.lit (.i .i64) 100), (.bin .add .i64 (.var (.i .i64) 640000108801600) (.lit (.i .i64) 1))])),
  (640000134401603, (.app (.i .i64) 100000021 3 [(.var (.i .i64) 640000128001088), (.var .x 640000128001089), (.var .x 640000128001090), (.lit (.i .i64) 100), (.bin .add .i64 (.var (.i .i64) 640000108801600) (.lit (.i .i64) 1))])),
  (640057625602112, (.app (.i .i64) 100009004 0 [(.var (.i .i64) 2), (.var (.i .i64) 640000083200064), (.var .x 640000083200065), (.var .x 640000083200066), (.var (.i .i64) 640000134401600), (.var .x 640000134401601), (.var .x 640000134401602), (.var .x 640000089600576), (.app (.i .i64) 0 0 [(.var .x 640000089600576)]), (.lit (.i .i64) 0)])),
  (640057625602113, (.app .x 100009004 1 [(.var (.i .i64) 2), (.var (.i .i64) 640000083200064), (.var .x 640000083200065), (.var .x 640000083200066), (.var (.i .i64) 640000134401600), (.var .x 640000134401601), (.var .x 640000134401602), (.var .x 640000089600576), (.app (.i .i64) 0 0 [(.var .x 640000089600576)]), (.lit (.i .i64) 0)])),
  (640057625602114, (.app .x 100009004 2 [(.var (.i .i64) 2), (.var (.i .i64) 640000083200064), (.var .x 640000083200065), (.var .x 640000083200066), (.var (.i .i64) 640000134401600), (.var .x 640000134401601), (.var .x 640000134401602), (.var .x 640000089600576), (.app (.i .i64) 0 0 [(.var .x 640000089600576)]), (.lit (.i .i64) 0)])),
  (640058265602240, (.app (.i .i64) 100009104 0 [(.var .x 640000089600576), (.var (.i .i64) 640057625602112), (.var .x 640057625602113), (.var .x 640057625602114), (.app (.i .i64) 0 0 [(.var .x 640000089600576)]), (.lit (.i .i64) 0)])),
  (640058265602241, (.app .x 100009104 1 [(.var .x 640000089600576), (.var (.i .i64) 640057625602112), (.var .x 640057625602113), (.var .x 640057625602114), (.app (.i .i64) 0 0 [(.var .x 640000089600576)]), (.lit (.i .i64) 0)])),
  (640058265602242, (.app .x 100009104 2 [(.var .x 640000089600576), (.var (.i .i64) 640057625602112), (.var .x 640057625602113), (.var .x 640057625602114), (.app (.i .i64) 0 0 [(.var .x 640000089600576)]), (.lit (.i .i64) 0)])),
  (640000140802368, (.app (.i .i64) 100000022 0 [(.var (.i .i64) 640058265602240), (.var .x 640058265602241), (.var .x 640058265602242), (.lit (.i .i64) 100)])),
  (640000140802369, (.app .x 100000022 1 [(.var (.i .i64) 640058265602240), (.var .x 640058265602241), (.var .x 640058265602242), (.lit (.i .i64) 100)])),
  (640000140802370, (.app .x 100000022 2 [(.var (.i .i64) 640058265602240), (.var .x 640058265602241), (.var .x 640058265602242), (.lit (.i .i64) 100)])),
  (640000140802371, (.app (.i .i64) 100000022 3 [(.var (.i .i64) 640058265602240), (.var .x 640058265602241), (.var .x 640058265602242), (.lit (.i .i64) 100)])),
  (640000140802880, (.app (.i .i64) 100000022 0 [(.var (.i .i64) 640000140802368), (.var .x 640000140802369), (.var .x 640000140802370), (.lit (.i .i64) 100)])),
  (640000140802881, (.app .x 100000022 1 [(.var (.i .i64) 640000140802368), (.var .x 640000140802369), (.var .x 640000140802370), (.lit (.i .i64) 100)])),
  (640000140802882, (.app .x 100000022 2 [(.var (.i .i64) 640000140802368), (.var .x 640000140802369), (.var .x 640000140802370), (.lit (.i .i64) 100)])),
  (640000140802883, (.app (.i .i64) 100000022 3 [(.var (.i .i64) 640000140802368), (.var .x 640000140802369), (.var .x 640000140802370), (.lit (.i .i64) 100)])),
  (640000089603392, (.app .x 100000014 0 [(.ite (.cmp .eql (.var (.i .i64) 640000140802371) (.lit (.i .i64) 0)) (.var (.i .i64) 640000140802880) (.var (.i .i64) 640000140802368)), (.ite (.cmp .eql (.var (.i .i64) 640000140802371) (.lit (.i .i64) 0)) (.var .x 640000140802881) (.var .x 640000140802369)), (.ite (.cmp .eql (.var (.i .i64) 640000140802371) (.lit (.i .i64) 0)) (.var .x 640000140802882) (.var .x 640000140802370))])),
  (640000115203904, (.app .b 100000018 0 [(.var .x 640000089603392), (.var .x 640000089600576)]))]
def ob_4 : E := (.and (.and (.app .b 100000012 1000000 []) (.and (.and (.app .b 100000013 1000000 [(.var (.i .i64) 0), (.var .x 1)]) (.and (.cmp .eql (.var (.i .i64) 640000083200064) (.app (.i .i64) 100000013 0 [(.var (.i .i64) 0), (.var .x 1)])) (.and (.cmp .eql (.var .x 640000083200065) (.app .x 100000013 1 [(.var (.i .i64) 0), (.var .x 1)])) (.and (.cmp .eql (.var .x 640000083200066) (.app .x 100000013 2 [(.var (.i .i64) 0), (.var .x 1)])) (.lit .b 1))))) (.and (.and (.app .b 100000014 1000000 [(.var (.i .i64) 640000083200064), (.var .x 640000083200065), (.var .x 640000083200066)]) (.and (.cmp .eql (.var .x 640000089600576) (.app .x 100000014 0 [(.var (.i .i64) 640000083200064), (.var .x 640000083200065), (.var .x 640000083200066)])) (.lit .b 1))) (.and (.and (.and (.app .b 100000017 1000000 [(.var (.i .i64) 640000083200064), (.var .x 640000083200065), (.var .x 640000083200066)]) (.and (.cmp .eql (.var (.i .i64) 640000108801088) (.app (.i .i64) 100000017 0 [(.var (.i .i64) 640000083200064), (.var .x 640000083200065), (.var .x 640000083200066)])) (.lit .b 1))) (.and (.app .b 100000020 1000000 [(.var (.i .i64) 640000108801088)]) (.and (.cmp .eql (.var (.i .i64) 640000128001088) (.app (.i .i64) 100000020 0 [(.var (.i .i64) 640000108801088)])) (.and (.cmp .eql (.var .x 640000128001089) (.app .x 100000020 1 [(.var (.i .i64) 640000108801088)])) (.and (.cmp .eql (.var .x 640000128001090) (.app .x 100000020 2 [(.var (.i .i64) 640000108801088)])) (.lit .b 1)))))) (.and (.and (.and (.app .b 100000017 1000000 [(.var (.i .i64) 640000083200064), (.var .x 640000083200065), (.var .x 640000083200066)]) (.and (.cmp .eql (.var (.i .i64) 640000108801600) (.app (.i .i64) 100000017 0 [(.var (.i .i64) 640000083200064), (.var .x 640000083200065), (.var .x 640000083200066)])) (.lit .b 1))) (.and (.app .b 100000021 1000000 [(.var (.i .i64) 640000128001088), (.var .x 640000128001089), (.var .x 640000128001090), (.lit (.i .i64) 100), (.bin .add .i64 (.var (.i .i64) 640000108801600) (.lit (.i .i64) 1))]) (.and (.cmp .eql (.var (.i .i64) 640000134401600) (.app (.i .i64) 100000021 0 [(.var (.i .i64) 640000128001088), (.var .x 640000128001089), (.var .x 640000128001090), (.lit (.i .i64) 100), (.bin .add .i64 (.var (.i .i64) 640000108801600) (.lit (.i .i64) 1))])) (.and (.cmp .eql (.var .x 640000134401601) (.app .x 100000021 1 [(.var (.i .i64) 640000128001088), (.var .x 640000128001089), (.var .x 640000128001090), (.lit (.i .i64) 100), (.bin .add .i64 (.var (.i .i64) 640000108801600) (.lit (.i .i64) 1))])) (.and (.cmp .eql (.var .x 640000134401602) (.app .x 100000021 2 [(.var (.i .i64) 640000128001088), (.var .x 640000128001089), (.var .x 640000128001090), (.lit (.i .i64) 100), (.bin .add .i64 (.var (.i .i64) 640000108801600) (.lit (.i .i64) 1))])) (.and (.cmp .eql (.var (.i .i64) 640000134401603) (.app (.i .i64) 100000021 3 [(.var (.i .i64) 640000128001088), (.var .x 640000128001089), (.var .x 640000128001090), (.lit (.i .i64) 100), (.bin .add .i64 (.var (.i .i64) 640000108801600) (.lit (.i .i64) 1))])) (.lit .b 1))))))) (.or (.cmp .neq (.var (.i .i64) 640000134401603) (.lit (.i .i64) 0)) (.and (.and (.app .b 100009004 1000000 [(.var (.i .i64) 2), (.var (.i .i64) 640000083200064), (.var .x 640000083200065), (.var .x 640000083200066), (.var (.i .i64) 640000134401600), (.var .x 640000134401601), (.var .x 640000134401602), (.var .x 640000089600576), (.app (.i .i64) 0 0 [(.var .x 640000089600576)]), (.lit (.i .i64) 0)]) (.and (.cmp .eql (.var (.i .i64) 640057625602112) (.app (.i .i64) 100009004 0 [(.var (.i .i64) 2), (.var (.i .i64) 640000083200064), (.var .x 640000083200065), (.var .x 640000083200066), (.var (.i .i64) 640000134401600), (.var .x 640000134401601), (.var .x 640000134401602), (.var .x 640000089600576), (.app (.i .i64) 0 0 [(.var .x 640000089600576)]), (.lit (.i .i64) 0)])) (.and (.cmp .eql (.var .x 640057625602113) (.app .x 100009004 1 [(.var (.i .i64) 2), (.var (.i .i64) 640000083200064), (.var .x 640000083200065), (.var .x 640000083200066), (.var (.i .i64) 640000134401600), (.var .x 640000134401601), (.var .x 640000134401602), (.var .x 640000089600576), (.app (.i .i64) 0 0 [(.var .x 640000089600576)]), (.lit (.i .i64) 0)])) (.and (.cmp .eql (.var .x 640057625602114) (.app .x 100009004 2 [(.var (.i .i64) 2), (.var (.i .i64) 640000083200064), (.var .x 640000083200065), (.var .x 640000083200066), (.var (.i .i64) 640000134401600), (.var .x 640000134401601), (.var .x 640000134401602), (.var .x 640000089600576), (.app (.i .i64) 0 0 [(.var .x 640000089600576)]), (.lit (.i .i64) 0)])) (.lit .b 1))))) (.and (.and (.app .b 100009104 1000000 [(.var .x 640000089600576), (.var (.i .i64) 640057625602112), (.var .x 640057625602113), (.var .x 640057625602114), (.app (.i .i64) 0 0 [(.var .x 640000089600576)]), (.lit (.i .i64) 0)]) (.and (.cmp .eql (.var (.i .i64) 640058265602240) (.app (.i .i64) 100009104 0 [(.var .x 640000089600576), (.var (.i .i64) 640057625602112), (.var .x 640057625602113), (.var .x 640057625602114), (.app (.i .i64) 0 0 [(.var .x 640000089600576)]), (.lit (.i .i64) 0)])) (.and (.cmp .eql (.var .x 640058265602241) (.app .x 100009104 1 [(.var .x 640000089600576), (.var (.i .i64) 640057625602112), (.var .x 640057625602113), (.var .x 640057625602114), (.app (.i .i64) 0 0 [(.var .x 640000089600576)]), (.lit (.i .i64) 0)])) (.and (.cmp .eql (.var .x 640058265602242) (.app .x 100009104 2 [(.var .x 640000089600576), (.var (.i .i64) 640057625602112), (.var .x 640057625602113), (.var .x 640057625602114), (.app (.i .i64) 0 0 [(.var .x 640000089600576)]), (.lit (.i .i64) 0)])) (.lit .b 1))))) (.and (.and (.app .b 100000022 1000000 [(.var (.i .i64) 640058265602240), (.var .x 640058265602241), (.var .x 640058265602242), (.lit (.i .i64) 100)]) (.and (.cmp .eql (.var (.i .i64) 640000140802368) (.app (.i .i64) 100000022 0 [(.var (.i .i64) 640058265602240), (.var .x 640058265602241), (.var .x 640058265602242), (.lit (.i .i64) 100)])) (.and (.cmp .eql (.var .x 640000140802369) (.app .x 100000022 1 [(.var (.i .i64) 640058265602240), (.var .x 640058265602241), (.var .x 640058265602242), (.lit (.i .i64) 100)])) (.and (.cmp .eql (.var .x 640000140802370) (.app .x 100000022 2 [(.var (.i .i64) 640058265602240), (.var .x 640058265602241), (.var .x 640058265602242), (.lit (.i .i64) 100)])) (.and (.cmp .eql (.var (.i .i64) 640000140802371) (.app (.i .i64) 100000022 3 [(.var (.i .i64) 640058265602240), (.var .x 640058265602241), (.var .x 640058265602242), (.lit (.i .i64) 100)])) (.lit .b 1)))))) (.and (.or (.not (.cmp .eql (.var (.i .i64) 640000140802371) (.lit (.i .i64) 0))) (.and (.app .b 100000022 1000000 [(.var (.i .i64) 640000140802368), (.var .x 640000140802369), (.var .x 640000140802370), (.lit (.i .i64) 100)]) (.and (.cmp .eql (.var (.i .i64) 640000140802880) (.app (.i .i64) 100000022 0 [(.var (.i .i64) 640000140802368), (.var .x 640000140802369), (.var .x 640000140802370), (.lit (.i .i64) 100)])) (.and (.cmp .eql (.var .x 640000140802881) (.app .x 100000022 1 [(.var (.i .i64) 640000140802368), (.var .x 640000140802369), (.var .x 640000140802370), (.lit (.i .i64) 100)])) (.and (.cmp .eql (.var .x 640000140802882) (.app .x 100000022 2 [(.var (.i .i64) 640000140802368), (.var .x 640000140802369), (.var .x 640000140802370), (.lit (.i .i64) 100)])) (.and (.cmp .eql (.var (.i .i64) 640000140802883) (.app (.i .i64) 100000022 3 [(.var (.i .i64) 640000140802368), (.var .x 640000140802369), (.var .x 640000140802370), (.lit (.i .i64) 100)])) (.lit .b 1))))))) (.and (.or (.not (.and (.cmp .eql (.var (.i .i64) 640000140802371) (.lit (.i .i64) 0)) (.cmp .eql (.var (.i .i64) 640000140802883) (.lit (.i .i64) 6)))) (.and (.and (.ite (.cmp .eql (.var (.i .i64) 640000140802371) (.lit (.i .i64) 0)) (.cmp .eql (.var (.i .i64) 640000140802371) (.lit (.i .i64) 0)) (.not (.cmp .eql (.var (.i .i64) 640000140802371) (.lit (.i .i64) 0)))) (.app .b 100000014 1000000 [(.ite (.cmp .eql (.var (.i .i64) 640000140802371) (.lit (.i .i64) 0)) (.var (.i .i64) 640000140802880) (.var (.i .i64) 640000140802368)), (.ite (.cmp .eql (.var (.i .i64) 640000140802371) (.lit (.i .i64) 0)) (.var .x 640000140802881) (.var .x 640000140802369)), (.ite (.cmp .eql (.var (.i .i64) 640000140802371) (.lit (.i .i64) 0)) (.var .x 640000140802882) (.var .x 640000140802370))])) (.and (.cmp .eql (.var .x 640000089603392) (.app .x 100000014 0 [(.ite (.cmp .eql (.var (.i .i64) 640000140802371) (.lit (.i .i64) 0)) (.var (.i .i64) 640000140802880) (.var (.i .i64) 640000140802368)), (.ite (.cmp .eql (.var (.i .i64) 640000140802371) (.lit (.i .i64) 0)) (.var .x 640000140802881) (.var .x 640000140802369)), (.ite (.cmp .eql (.var (.i .i64) 640000140802371) (.lit (.i .i64) 0)) (.var .x 640000140802882) (.var .x 640000140802370))])) (.lit .b 1)))) (.or (.not (.and (.cmp .eql (.var (.i .i64) 640000140802371) (.lit (.i .i64) 0)) (.cmp .eql (.var (.i .i64) 640000140802883) (.lit (.i .i64) 6)))) (.and (.and (.and (.cmp .eql (.var (.i .i64) 640000140802371) (.lit (.i .i64) 0)) (.cmp .eql (.var (.i .i64) 640000140802883) (.lit (.i .i64) 6))) (.app .b 100000018 1000000 [(.var .x 640000089603392), (.var .x 640000089600576)])) (.and (.cmp .eql (.var .b 640000115203904) (.app .b 100000018 0 [(.var .x 640000089603392), (.var .x 640000089600576)])) (.lit .b 1))))))))))))))) (.and (.not (.cmp .neq (.var (.i .i64) 640000134401603) (.lit (.i .i64) 0))) (.and (.and (.cmp .eql (.var (.i .i64) 640000140802371) (.lit (.i .i64) 0)) (.cmp .eql (.var (.i .i64) 640000140802883) (.lit (.i .i64) 6))) (.var .b 640000115203904))))
def es_4 : List E := []
theorem ev_4 : evE Try.prog G0 (tabOf cQ4n.fs) (ltOf cQ4n.ls) 40 10 e4 = some (ob_4, es_4) := by kernel_rfl

theorem c4aok : c4a.OK Try.prog G0 := (cEok.addF ok15 rfl).sub rfl (by simp [c4a, cE]) (by simp [c4a])

set_option maxHeartbeats 4000000 in
theorem lo4a : ItemOK Try.prog G0 4 p4a le4a := by
  refine c4aok.loopP mixed mu4a rfl ?_ ev_L4a _ rfl _ rfl ?_
  · exact ⟨_, _, _, Try.func4, rfl, rfl⟩
  intro n xs hf hp hmu
  obtain ⟨l, hl, hS, hF⟩ := self_P le4a mu4a n c4a.l (by decide)
  show ob_L4a.tt (Tabs.F (enL le4a mu4a n :: c4a.l)) _ = true ∧ outsP le4a.ent.fn _ (Tabs.F (enL le4a mu4a n :: c4a.l)) _ _ _ _
  rw [hl]
  have F15_0 : ∀ xs, l.F 15 0 xs = e15.fn 0 xs := (hF e15 (by rfl) (by decide) (by decide)).1 0 rfl
  have P15 := (hF e15 (by rfl) (by decide) (by decide)).2
  replace P15 : ∀ xs, (i2b (K.b.norm (l.F 15 1000000 xs)) = true) = _ := P15
  have F17_0 : ∀ xs, l.F 17 0 xs = e17.fn 0 xs := (hF e17 (by rfl) (by decide) (by decide)).1 0 rfl
  have P17 := (hF e17 (by rfl) (by decide) (by decide)).2
  replace P17 : ∀ xs, (i2b (K.b.norm (l.F 17 1000000 xs)) = true) = _ := P17
  have F21_0 : ∀ xs, l.F 21 0 xs = e21.fn 0 xs := (hF e21 (by rfl) (by decide) (by decide)).1 0 rfl
  have F21_1 : ∀ xs, l.F 21 1 xs = e21.fn 1 xs := (hF e21 (by rfl) (by decide) (by decide)).1 1 rfl
  have F21_2 : ∀ xs, l.F 21 2 xs = e21.fn 2 xs := (hF e21 (by rfl) (by decide) (by decide)).1 2 rfl
  have F21_3 : ∀ xs, l.F 21 3 xs = e21.fn 3 xs := (hF e21 (by rfl) (by decide) (by decide)).1 3 rfl
  have P21 := (hF e21 (by rfl) (by decide) (by decide)).2
  replace P21 : ∀ xs, (i2b (K.b.norm (l.F 21 1000000 xs)) = true) = _ := P21
  have F9004_0 : ∀ xs, l.F 9004 0 xs = le4a.ent.fn 0 xs := hS.1 0 rfl
  have F9004_1 : ∀ xs, l.F 9004 1 xs = le4a.ent.fn 1 xs := hS.1 1 rfl
  have F9004_2 : ∀ xs, l.F 9004 2 xs = le4a.ent.fn 2 xs := hS.1 2 rfl
  have P9004 := hS.2
  replace P9004 : ∀ xs, (i2b (K.b.norm (l.F 9004 1000000 xs)) = true) = _ := P9004
  obtain ⟨o, now, tc, mc, pn, pt, pm, c, m, i, rfl⟩ : ∃ a0 a1 a2 a3 a4 a5 a6 a7 a8 a9, xs = [a0, a1, a2, a3, a4, a5, a6, a7, a8, a9] := by
    have := fits_length hf
    match xs, this with
    | [a0, a1, a2, a3, a4, a5, a6, a7, a8, a9], _ => exact ⟨_, _, _, _, _, _, _, _, _, _, rfl⟩
  obtain ⟨h0, h1, h2, h3, h4, h5, h6, h7, h8, h9, _⟩ := hf
  simp only [norm_i, norm_x] at h0 h1 h4 h8 h9
  obtain ⟨p1, p2, p3, p4, p5, p6, p7⟩ := hp
  simp only [ewA, preC, binI, dvI, shI, cmpB, env, List.map_cons, List.map_nil, List.getD_cons_succ, List.getD_cons_zero, List.getElem?_cons_zero, List.getElem?_cons_succ, bi, List.headD, List.tail, List.map, List.nil_append, List.cons_append, Int.toNat_zero, Int.toNat_one, Int.toNat_natCast, Nat.zero_add, Nat.reduceAdd] at p1 p2 p3 p4 p5 p6 p7 hmu
  subst p3
  have ht := p1.tim
  have hlen := p1.len
  have hm := i64r h8
  have e1 : le4a.ent.fn = fn4a := rfl
  have e2 : le4a.ent.pre = pre4a := rfl
  by_cases hlt : i < m
  · obtain ⟨r, hr, hrf, hrm, hrd⟩ := row_at p1.row p6 (by omega)
    match r, hrf with
    | [a, b], hrf =>
      obtain ⟨k0, k1, _⟩ := hrf
      simp only [norm_i] at k0 k1
      have hrg := p1.rng _ hrm
      replace hrg : 0 ≤ a ∧ a < 4096 ∧ now < b ∧ b ≤ now + 2147483648 := hrg
      rw [← p4] at hr hrd
      have hcl : (dc c).length = (dc tc).length := by rw [p4]
      obtain ⟨D, hD⟩ : ∃ D, D = IntKind.i64.wrap (o + i) % 5000 := ⟨_, rfl⟩
      have hD0 : 0 ≤ D ∧ D < 5000 := by omega
      have hb : armB now a (now + 1 + D) = true := armB_ok hrg.1 hrg.2.1 (by omega) (by omega)
      have x0 : fn21 0 [now, pt, pm, a, now + 1 + D] = now := rfl
      have x3 : fn21 3 [now, pt, pm, a, now + 1 + D] = 0 := by show (bif armB now a (now + 1 + D) then (0 : Int) else 2) = _; rw [hb]; rfl
      have hq' := p2.arm (i := a) (d := now + 1 + D)
      have key : ∀ j, fn4a j [o, now, tc, mc, now, pt, pm, c, m, i] = fn4a j [o, now, tc, mc, now, fn21 1 [now, pt, pm, a, now + 1 + D], fn21 2 [now, pt, pm, a, now + 1 + D], c, m, i + 1] := fun j => by
        show get3 j (runA o i ((dc c).drop i.toNat) (now, pt, pm)) = get3 j (runA o (i + 1) ((dc c).drop (i + 1).toNat) (now, fn21 1 [now, pt, pm, a, now + 1 + D], fn21 2 [now, pt, pm, a, now + 1 + D]))
        rw [hrd]
        simp only [runA, armQ, idR, List.getD_cons_zero, ← hD]
      refine ⟨?_, ?_, ?_, ?_, trivial⟩
      · simp (disch := omega) only [ob_L4a, ewA, preC, binI, dvI, shI, cmpB, env, List.map_cons, List.map_nil, List.getD_cons_succ, List.getD_cons_zero, List.getElem?_cons_zero, List.getElem?_cons_succ, bi, List.headD, List.tail, List.map, List.nil_append, List.cons_append, Int.toNat_zero, Int.toNat_one, Int.toNat_natCast, Nat.zero_add, Nat.reduceAdd, ewB, pdec, pndec, Int.not_lt, Int.not_le, if_true, if_false, ite_true, ite_false, true_and, and_true, false_and, and_false, true_implies, implies_true, false_implies, forall_const, not_true_eq_false, not_false_eq_true, ne_eq, reduceCtorEq, List.take_length, List.drop_zero, Int.reduceEq, Int.reduceLT, Int.reduceLE, Int.reduceToNat, Int.reduceAdd, Int.reduceSub, Int.reduceMul, Int.reduceNeg, Int.reduceBEq, Nat.reduceAdd, Nat.reduceLT, Nat.reduceEqDiff, F15_0, P15, F17_0, P17, F21_0, F21_1, F21_2, F21_3, P21, F9004_0, F9004_1, F9004_2, P9004, h0, h1, h8, h9, hlt, hr, k0, k1, e15, e17, e21, ← hD, x0, x3, e2, hcl]
        exact ⟨⟨⟨p6, by omega⟩, p2⟩, ⟨p1, hq', rfl, p4, p5, by show 0 ≤ i + 1; omega, by show i + 1 ≤ m; omega⟩, by simp only [mu4a, ewA, preC, binI, dvI, shI, cmpB, env, List.map_cons, List.map_nil, List.getD_cons_succ, List.getD_cons_zero, List.getElem?_cons_zero, List.getElem?_cons_succ, bi, List.headD, List.tail, List.map, List.nil_append, List.cons_append, Int.toNat_zero, Int.toNat_one, Int.toNat_natCast, Nat.zero_add, Nat.reduceAdd] at hmu ⊢; omega⟩
      · simp (disch := omega) only [es_L4a, ewA, preC, binI, dvI, shI, cmpB, env, List.map_cons, List.map_nil, List.getD_cons_succ, List.getD_cons_zero, List.getElem?_cons_zero, List.getElem?_cons_succ, bi, List.headD, List.tail, List.map, List.nil_append, List.cons_append, Int.toNat_zero, Int.toNat_one, Int.toNat_natCast, Nat.zero_add, Nat.reduceAdd, ewB, pdec, pndec, Int.not_lt, Int.not_le, if_true, if_false, ite_true, ite_false, true_and, and_true, false_and, and_false, true_implies, implies_true, false_implies, forall_const, not_true_eq_false, not_false_eq_true, ne_eq, reduceCtorEq, List.take_length, List.drop_zero, Int.reduceEq, Int.reduceLT, Int.reduceLE, Int.reduceToNat, Int.reduceAdd, Int.reduceSub, Int.reduceMul, Int.reduceNeg, Int.reduceBEq, Nat.reduceAdd, Nat.reduceLT, Nat.reduceEqDiff, F15_0, P15, F17_0, P17, F21_0, F21_1, F21_2, F21_3, P21, F9004_0, F9004_1, F9004_2, P9004, h0, h1, h8, h9, hlt, hr, k0, k1, e15, e17, e21, ← hD, x0, x3, e1, key 0]
      · simp (disch := omega) only [es_L4a, ewA, preC, binI, dvI, shI, cmpB, env, List.map_cons, List.map_nil, List.getD_cons_succ, List.getD_cons_zero, List.getElem?_cons_zero, List.getElem?_cons_succ, bi, List.headD, List.tail, List.map, List.nil_append, List.cons_append, Int.toNat_zero, Int.toNat_one, Int.toNat_natCast, Nat.zero_add, Nat.reduceAdd, ewB, pdec, pndec, Int.not_lt, Int.not_le, if_true, if_false, ite_true, ite_false, true_and, and_true, false_and, and_false, true_implies, implies_true, false_implies, forall_const, not_true_eq_false, not_false_eq_true, ne_eq, reduceCtorEq, List.take_length, List.drop_zero, Int.reduceEq, Int.reduceLT, Int.reduceLE, Int.reduceToNat, Int.reduceAdd, Int.reduceSub, Int.reduceMul, Int.reduceNeg, Int.reduceBEq, Nat.reduceAdd, Nat.reduceLT, Nat.reduceEqDiff, F15_0, P15, F17_0, P17, F21_0, F21_1, F21_2, F21_3, P21, F9004_0, F9004_1, F9004_2, P9004, h0, h1, h8, h9, hlt, hr, k0, k1, e15, e17, e21, ← hD, x0, x3, e1, key 1]
      · simp (disch := omega) only [es_L4a, ewA, preC, binI, dvI, shI, cmpB, env, List.map_cons, List.map_nil, List.getD_cons_succ, List.getD_cons_zero, List.getElem?_cons_zero, List.getElem?_cons_succ, bi, List.headD, List.tail, List.map, List.nil_append, List.cons_append, Int.toNat_zero, Int.toNat_one, Int.toNat_natCast, Nat.zero_add, Nat.reduceAdd, ewB, pdec, pndec, Int.not_lt, Int.not_le, if_true, if_false, ite_true, ite_false, true_and, and_true, false_and, and_false, true_implies, implies_true, false_implies, forall_const, not_true_eq_false, not_false_eq_true, ne_eq, reduceCtorEq, List.take_length, List.drop_zero, Int.reduceEq, Int.reduceLT, Int.reduceLE, Int.reduceToNat, Int.reduceAdd, Int.reduceSub, Int.reduceMul, Int.reduceNeg, Int.reduceBEq, Nat.reduceAdd, Nat.reduceLT, Nat.reduceEqDiff, F15_0, P15, F17_0, P17, F21_0, F21_1, F21_2, F21_3, P21, F9004_0, F9004_1, F9004_2, P9004, h0, h1, h8, h9, hlt, hr, k0, k1, e15, e17, e21, ← hD, x0, x3, e1, key 2]
  · have hd : (dc c).drop i.toNat = [] := List.drop_of_length_le (by rw [p4]; omega)
    have key : ∀ j, fn4a j [o, now, tc, mc, now, pt, pm, c, m, i] = get3 j (now, pt, pm) := fun j => by
      show get3 j (runA o i ((dc c).drop i.toNat) (now, pt, pm)) = _
      rw [hd]; rfl
    refine ⟨?_, ?_, ?_, ?_, trivial⟩
    · simp (disch := omega) only [ob_L4a, ewA, preC, binI, dvI, shI, cmpB, env, List.map_cons, List.map_nil, List.getD_cons_succ, List.getD_cons_zero, List.getElem?_cons_zero, List.getElem?_cons_succ, bi, List.headD, List.tail, List.map, List.nil_append, List.cons_append, Int.toNat_zero, Int.toNat_one, Int.toNat_natCast, Nat.zero_add, Nat.reduceAdd, ewB, pdec, pndec, Int.not_lt, Int.not_le, if_true, if_false, ite_true, ite_false, true_and, and_true, false_and, and_false, true_implies, implies_true, false_implies, forall_const, not_true_eq_false, not_false_eq_true, ne_eq, reduceCtorEq, List.take_length, List.drop_zero, Int.reduceEq, Int.reduceLT, Int.reduceLE, Int.reduceToNat, Int.reduceAdd, Int.reduceSub, Int.reduceMul, Int.reduceNeg, Int.reduceBEq, Nat.reduceAdd, Nat.reduceLT, Nat.reduceEqDiff, F15_0, P15, F17_0, P17, F21_0, F21_1, F21_2, F21_3, P21, F9004_0, F9004_1, F9004_2, P9004, h0, h1, h8, h9, hlt]
    · simp (disch := omega) only [es_L4a, ewA, preC, binI, dvI, shI, cmpB, env, List.map_cons, List.map_nil, List.getD_cons_succ, List.getD_cons_zero, List.getElem?_cons_zero, List.getElem?_cons_succ, bi, List.headD, List.tail, List.map, List.nil_append, List.cons_append, Int.toNat_zero, Int.toNat_one, Int.toNat_natCast, Nat.zero_add, Nat.reduceAdd, ewB, pdec, pndec, Int.not_lt, Int.not_le, if_true, if_false, ite_true, ite_false, true_and, and_true, false_and, and_false, true_implies, implies_true, false_implies, forall_const, not_true_eq_false, not_false_eq_true, ne_eq, reduceCtorEq, List.take_length, List.drop_zero, Int.reduceEq, Int.reduceLT, Int.reduceLE, Int.reduceToNat, Int.reduceAdd, Int.reduceSub, Int.reduceMul, Int.reduceNeg, Int.reduceBEq, Nat.reduceAdd, Nat.reduceLT, Nat.reduceEqDiff, F15_0, P15, F17_0, P17, F21_0, F21_1, F21_2, F21_3, P21, F9004_0, F9004_1, F9004_2, P9004, h0, h1, h8, h9, hlt, e1, key 0, get3]
    · simp (disch := omega) only [es_L4a, ewA, preC, binI, dvI, shI, cmpB, env, List.map_cons, List.map_nil, List.getD_cons_succ, List.getD_cons_zero, List.getElem?_cons_zero, List.getElem?_cons_succ, bi, List.headD, List.tail, List.map, List.nil_append, List.cons_append, Int.toNat_zero, Int.toNat_one, Int.toNat_natCast, Nat.zero_add, Nat.reduceAdd, ewB, pdec, pndec, Int.not_lt, Int.not_le, if_true, if_false, ite_true, ite_false, true_and, and_true, false_and, and_false, true_implies, implies_true, false_implies, forall_const, not_true_eq_false, not_false_eq_true, ne_eq, reduceCtorEq, List.take_length, List.drop_zero, Int.reduceEq, Int.reduceLT, Int.reduceLE, Int.reduceToNat, Int.reduceAdd, Int.reduceSub, Int.reduceMul, Int.reduceNeg, Int.reduceBEq, Nat.reduceAdd, Nat.reduceLT, Nat.reduceEqDiff, F15_0, P15, F17_0, P17, F21_0, F21_1, F21_2, F21_3, P21, F9004_0, F9004_1, F9004_2, P9004, h0, h1, h8, h9, hlt, e1, key 1, get3]
    · simp (disch := omega) only [es_L4a, ewA, preC, binI, dvI, shI, cmpB, env, List.map_cons, List.map_nil, List.getD_cons_succ, List.getD_cons_zero, List.getElem?_cons_zero, List.getElem?_cons_succ, bi, List.headD, List.tail, List.map, List.nil_append, List.cons_append, Int.toNat_zero, Int.toNat_one, Int.toNat_natCast, Nat.zero_add, Nat.reduceAdd, ewB, pdec, pndec, Int.not_lt, Int.not_le, if_true, if_false, ite_true, ite_false, true_and, and_true, false_and, and_false, true_implies, implies_true, false_implies, forall_const, not_true_eq_false, not_false_eq_true, ne_eq, reduceCtorEq, List.take_length, List.drop_zero, Int.reduceEq, Int.reduceLT, Int.reduceLE, Int.reduceToNat, Int.reduceAdd, Int.reduceSub, Int.reduceMul, Int.reduceNeg, Int.reduceBEq, Nat.reduceAdd, Nat.reduceLT, Nat.reduceEqDiff, F15_0, P15, F17_0, P17, F21_0, F21_1, F21_2, F21_3, P21, F9004_0, F9004_1, F9004_2, P9004, h0, h1, h8, h9, hlt, e1, key 2, get3]

theorem row_back {ks : List K} {c i : Int} (h : rowsOK ks (dc c)) (h0 : 0 ≤ i) (h1 : i < ((dc c).length : Int)) : ∃ r, (dc c).getD (((dc c).length : Int) - 1 - i).toNat [] = r ∧ fits ks r ∧ r ∈ dc c ∧ (dc c).reverse.drop i.toNat = r :: (dc c).reverse.drop (i + 1).toNat := by
  have hl : (((dc c).length : Int) - 1 - i).toNat < (dc c).length := by omega
  refine ⟨(dc c)[(((dc c).length : Int) - 1 - i).toNat], by simp [List.getD, hl], h _ (List.getElem_mem hl), List.getElem_mem hl, ?_⟩
  have hr : i.toNat < (dc c).reverse.length := by simp; omega
  rw [List.drop_eq_getElem_cons hr, show (i + 1).toNat = i.toNat + 1 by omega, List.getElem_reverse]
  congr 2
  omega

set_option maxHeartbeats 4000000 in
theorem lo4b : ItemOK Try.prog G0 4 p4b le4b := by
  refine c4aok.loopP mixed mu4b rfl ?_ ev_L4b _ rfl _ rfl ?_
  · exact ⟨_, _, _, Try.func4, rfl, rfl⟩
  intro n xs hf hp hmu
  obtain ⟨l, hl, hS, hF⟩ := self_P le4b mu4b n c4a.l (by decide)
  show ob_L4b.tt (Tabs.F (enL le4b mu4b n :: c4a.l)) _ = true ∧ outsP le4b.ent.fn _ (Tabs.F (enL le4b mu4b n :: c4a.l)) _ _ _ _
  rw [hl]
  have F21_0 : ∀ xs, l.F 21 0 xs = e21.fn 0 xs := (hF e21 (by rfl) (by decide) (by decide)).1 0 rfl
  have F21_1 : ∀ xs, l.F 21 1 xs = e21.fn 1 xs := (hF e21 (by rfl) (by decide) (by decide)).1 1 rfl
  have F21_2 : ∀ xs, l.F 21 2 xs = e21.fn 2 xs := (hF e21 (by rfl) (by decide) (by decide)).1 2 rfl
  have F21_3 : ∀ xs, l.F 21 3 xs = e21.fn 3 xs := (hF e21 (by rfl) (by decide) (by decide)).1 3 rfl
  have P21 := (hF e21 (by rfl) (by decide) (by decide)).2
  replace P21 : ∀ xs, (i2b (K.b.norm (l.F 21 1000000 xs)) = true) = _ := P21
  have F9104_0 : ∀ xs, l.F 9104 0 xs = le4b.ent.fn 0 xs := hS.1 0 rfl
  have F9104_1 : ∀ xs, l.F 9104 1 xs = le4b.ent.fn 1 xs := hS.1 1 rfl
  have F9104_2 : ∀ xs, l.F 9104 2 xs = le4b.ent.fn 2 xs := hS.1 2 rfl
  have P9104 := hS.2
  replace P9104 : ∀ xs, (i2b (K.b.norm (l.F 9104 1000000 xs)) = true) = _ := P9104
  match xs, hf with
  | [c, now, pt, pm, m, i], hf =>
    obtain ⟨h0, h1, h2, h3, h4, h5, _⟩ := hf
    simp only [norm_i, norm_x] at h1 h4 h5
    obtain ⟨p1, ⟨M, p2⟩, p3, p4, p5⟩ := hp
    simp only [ewA, preC, binI, dvI, shI, cmpB, env, List.map_cons, List.map_nil, List.getD_cons_succ, List.getD_cons_zero, List.getElem?_cons_zero, List.getElem?_cons_succ, bi, List.headD, List.tail, List.map, List.nil_append, List.cons_append, Int.toNat_zero, Int.toNat_one, Int.toNat_natCast, Nat.zero_add, Nat.reduceAdd] at p1 p2 p3 p4 p5 hmu
    have ht := p1.tim
    have hlen := p2.len
    have hm := i64r h4
    have e1 : le4b.ent.fn = fn4b := rfl
    have e2 : le4b.ent.pre = pre4b := rfl
    by_cases hlt : i < m
    · obtain ⟨r, hr, hrf, hrm, hrd⟩ := row_back p2.row p4 (by omega)
      match r, hrf with
      | [a, b], hrf =>
        obtain ⟨k0, k1, _⟩ := hrf
        simp only [norm_i] at k0 k1
        have hrg := p2.rng _ hrm
        replace hrg : 0 ≤ a ∧ a < 4096 ∧ now < b ∧ b ≤ now + 2147483648 := hrg
        have hb : armB now a b = true := armB_ok hrg.1 hrg.2.1 hrg.2.2.1 hrg.2.2.2
        have x0 : fn21 0 [now, pt, pm, a, b] = now := rfl
        have x3 : fn21 3 [now, pt, pm, a, b] = 0 := by show (bif armB now a b then (0 : Int) else 2) = _; rw [hb]; rfl
        have hq' := p1.arm (i := a) (d := b)
        have key : ∀ j, fn4b j [c, now, pt, pm, m, i] = fn4b j [c, now, fn21 1 [now, pt, pm, a, b], fn21 2 [now, pt, pm, a, b], m, i + 1] := fun j => by
          show get3 j (runB ((dc c).reverse.drop i.toNat) (now, pt, pm)) = get3 j (runB ((dc c).reverse.drop (i + 1).toNat) (now, fn21 1 [now, pt, pm, a, b], fn21 2 [now, pt, pm, a, b]))
          rw [hrd]; rfl
        refine ⟨?_, ?_, ?_, ?_, trivial⟩
        · simp (disch := omega) only [ob_L4b, ewA, preC, binI, dvI, shI, cmpB, env, List.map_cons, List.map_nil, List.getD_cons_succ, List.getD_cons_zero, List.getElem?_cons_zero, List.getElem?_cons_succ, bi, List.headD, List.tail, List.map, List.nil_append, List.cons_append, Int.toNat_zero, Int.toNat_one, Int.toNat_natCast, Nat.zero_add, Nat.reduceAdd, ewB, pdec, pndec, Int.not_lt, Int.not_le, if_true, if_false, ite_true, ite_false, true_and, and_true, false_and, and_false, true_implies, implies_true, false_implies, forall_const, not_true_eq_false, not_false_eq_true, ne_eq, reduceCtorEq, List.take_length, List.drop_zero, Int.reduceEq, Int.reduceLT, Int.reduceLE, Int.reduceToNat, Int.reduceAdd, Int.reduceSub, Int.reduceMul, Int.reduceNeg, Int.reduceBEq, Nat.reduceAdd, Nat.reduceLT, Nat.reduceEqDiff, F21_0, F21_1, F21_2, F21_3, P21, F9104_0, F9104_1, F9104_2, P9104, h1, h4, h5, hlt, hr, k0, k1, e21, x0, x3, e2]
          exact ⟨⟨by omega, p1⟩, ⟨hq', ⟨M, p2⟩, p3, by show 0 ≤ i + 1; omega, by show i + 1 ≤ m; omega⟩, by simp only [mu4b, ewA, preC, binI, dvI, shI, cmpB, env, List.map_cons, List.map_nil, List.getD_cons_succ, List.getD_cons_zero, List.getElem?_cons_zero, List.getElem?_cons_succ, bi, List.headD, List.tail, List.map, List.nil_append, List.cons_append, Int.toNat_zero, Int.toNat_one, Int.toNat_natCast, Nat.zero_add, Nat.reduceAdd] at hmu ⊢; omega⟩
        · simp (disch := omega) only [es_L4b, ewA, preC, binI, dvI, shI, cmpB, env, List.map_cons, List.map_nil, List.getD_cons_succ, List.getD_cons_zero, List.getElem?_cons_zero, List.getElem?_cons_succ, bi, List.headD, List.tail, List.map, List.nil_append, List.cons_append, Int.toNat_zero, Int.toNat_one, Int.toNat_natCast, Nat.zero_add, Nat.reduceAdd, ewB, pdec, pndec, Int.not_lt, Int.not_le, if_true, if_false, ite_true, ite_false, true_and, and_true, false_and, and_false, true_implies, implies_true, false_implies, forall_const, not_true_eq_false, not_false_eq_true, ne_eq, reduceCtorEq, List.take_length, List.drop_zero, Int.reduceEq, Int.reduceLT, Int.reduceLE, Int.reduceToNat, Int.reduceAdd, Int.reduceSub, Int.reduceMul, Int.reduceNeg, Int.reduceBEq, Nat.reduceAdd, Nat.reduceLT, Nat.reduceEqDiff, F21_0, F21_1, F21_2, F21_3, P21, F9104_0, F9104_1, F9104_2, P9104, h1, h4, h5, hlt, hr, k0, k1, e21, x0, x3, e1, key 0]
        · simp (disch := omega) only [es_L4b, ewA, preC, binI, dvI, shI, cmpB, env, List.map_cons, List.map_nil, List.getD_cons_succ, List.getD_cons_zero, List.getElem?_cons_zero, List.getElem?_cons_succ, bi, List.headD, List.tail, List.map, List.nil_append, List.cons_append, Int.toNat_zero, Int.toNat_one, Int.toNat_natCast, Nat.zero_add, Nat.reduceAdd, ewB, pdec, pndec, Int.not_lt, Int.not_le, if_true, if_false, ite_true, ite_false, true_and, and_true, false_and, and_false, true_implies, implies_true, false_implies, forall_const, not_true_eq_false, not_false_eq_true, ne_eq, reduceCtorEq, List.take_length, List.drop_zero, Int.reduceEq, Int.reduceLT, Int.reduceLE, Int.reduceToNat, Int.reduceAdd, Int.reduceSub, Int.reduceMul, Int.reduceNeg, Int.reduceBEq, Nat.reduceAdd, Nat.reduceLT, Nat.reduceEqDiff, F21_0, F21_1, F21_2, F21_3, P21, F9104_0, F9104_1, F9104_2, P9104, h1, h4, h5, hlt, hr, k0, k1, e21, x0, x3, e1, key 1]
        · simp (disch := omega) only [es_L4b, ewA, preC, binI, dvI, shI, cmpB, env, List.map_cons, List.map_nil, List.getD_cons_succ, List.getD_cons_zero, List.getElem?_cons_zero, List.getElem?_cons_succ, bi, List.headD, List.tail, List.map, List.nil_append, List.cons_append, Int.toNat_zero, Int.toNat_one, Int.toNat_natCast, Nat.zero_add, Nat.reduceAdd, ewB, pdec, pndec, Int.not_lt, Int.not_le, if_true, if_false, ite_true, ite_false, true_and, and_true, false_and, and_false, true_implies, implies_true, false_implies, forall_const, not_true_eq_false, not_false_eq_true, ne_eq, reduceCtorEq, List.take_length, List.drop_zero, Int.reduceEq, Int.reduceLT, Int.reduceLE, Int.reduceToNat, Int.reduceAdd, Int.reduceSub, Int.reduceMul, Int.reduceNeg, Int.reduceBEq, Nat.reduceAdd, Nat.reduceLT, Nat.reduceEqDiff, F21_0, F21_1, F21_2, F21_3, P21, F9104_0, F9104_1, F9104_2, P9104, h1, h4, h5, hlt, hr, k0, k1, e21, x0, x3, e1, key 2]
    · have hd : (dc c).reverse.drop i.toNat = [] := List.drop_of_length_le (by simp; omega)
      have key : ∀ j, fn4b j [c, now, pt, pm, m, i] = get3 j (now, pt, pm) := fun j => by
        show get3 j (runB ((dc c).reverse.drop i.toNat) (now, pt, pm)) = _
        rw [hd]; rfl
      refine ⟨?_, ?_, ?_, ?_, trivial⟩
      · simp (disch := omega) only [ob_L4b, ewA, preC, binI, dvI, shI, cmpB, env, List.map_cons, List.map_nil, List.getD_cons_succ, List.getD_cons_zero, List.getElem?_cons_zero, List.getElem?_cons_succ, bi, List.headD, List.tail, List.map, List.nil_append, List.cons_append, Int.toNat_zero, Int.toNat_one, Int.toNat_natCast, Nat.zero_add, Nat.reduceAdd, ewB, pdec, pndec, Int.not_lt, Int.not_le, if_true, if_false, ite_true, ite_false, true_and, and_true, false_and, and_false, true_implies, implies_true, false_implies, forall_const, not_true_eq_false, not_false_eq_true, ne_eq, reduceCtorEq, List.take_length, List.drop_zero, Int.reduceEq, Int.reduceLT, Int.reduceLE, Int.reduceToNat, Int.reduceAdd, Int.reduceSub, Int.reduceMul, Int.reduceNeg, Int.reduceBEq, Nat.reduceAdd, Nat.reduceLT, Nat.reduceEqDiff, F21_0, F21_1, F21_2, F21_3, P21, F9104_0, F9104_1, F9104_2, P9104, h1, h4, h5, hlt]
      · simp (disch := omega) only [es_L4b, ewA, preC, binI, dvI, shI, cmpB, env, List.map_cons, List.map_nil, List.getD_cons_succ, List.getD_cons_zero, List.getElem?_cons_zero, List.getElem?_cons_succ, bi, List.headD, List.tail, List.map, List.nil_append, List.cons_append, Int.toNat_zero, Int.toNat_one, Int.toNat_natCast, Nat.zero_add, Nat.reduceAdd, ewB, pdec, pndec, Int.not_lt, Int.not_le, if_true, if_false, ite_true, ite_false, true_and, and_true, false_and, and_false, true_implies, implies_true, false_implies, forall_const, not_true_eq_false, not_false_eq_true, ne_eq, reduceCtorEq, List.take_length, List.drop_zero, Int.reduceEq, Int.reduceLT, Int.reduceLE, Int.reduceToNat, Int.reduceAdd, Int.reduceSub, Int.reduceMul, Int.reduceNeg, Int.reduceBEq, Nat.reduceAdd, Nat.reduceLT, Nat.reduceEqDiff, F21_0, F21_1, F21_2, F21_3, P21, F9104_0, F9104_1, F9104_2, P9104, h1, h4, h5, hlt, e1, key 0, get3]
      · simp (disch := omega) only [es_L4b, ewA, preC, binI, dvI, shI, cmpB, env, List.map_cons, List.map_nil, List.getD_cons_succ, List.getD_cons_zero, List.getElem?_cons_zero, List.getElem?_cons_succ, bi, List.headD, List.tail, List.map, List.nil_append, List.cons_append, Int.toNat_zero, Int.toNat_one, Int.toNat_natCast, Nat.zero_add, Nat.reduceAdd, ewB, pdec, pndec, Int.not_lt, Int.not_le, if_true, if_false, ite_true, ite_false, true_and, and_true, false_and, and_false, true_implies, implies_true, false_implies, forall_const, not_true_eq_false, not_false_eq_true, ne_eq, reduceCtorEq, List.take_length, List.drop_zero, Int.reduceEq, Int.reduceLT, Int.reduceLE, Int.reduceToNat, Int.reduceAdd, Int.reduceSub, Int.reduceMul, Int.reduceNeg, Int.reduceBEq, Nat.reduceAdd, Nat.reduceLT, Nat.reduceEqDiff, F21_0, F21_1, F21_2, F21_3, P21, F9104_0, F9104_1, F9104_2, P9104, h1, h4, h5, hlt, e1, key 1, get3]
      · simp (disch := omega) only [es_L4b, ewA, preC, binI, dvI, shI, cmpB, env, List.map_cons, List.map_nil, List.getD_cons_succ, List.getD_cons_zero, List.getElem?_cons_zero, List.getElem?_cons_succ, bi, List.headD, List.tail, List.map, List.nil_append, List.cons_append, Int.toNat_zero, Int.toNat_one, Int.toNat_natCast, Nat.zero_add, Nat.reduceAdd, ewB, pdec, pndec, Int.not_lt, Int.not_le, if_true, if_false, ite_true, ite_false, true_and, and_true, false_and, and_false, true_implies, implies_true, false_implies, forall_const, not_true_eq_false, not_false_eq_true, ne_eq, reduceCtorEq, List.take_length, List.drop_zero, Int.reduceEq, Int.reduceLT, Int.reduceLE, Int.reduceToNat, Int.reduceAdd, Int.reduceSub, Int.reduceMul, Int.reduceNeg, Int.reduceBEq, Nat.reduceAdd, Nat.reduceLT, Nat.reduceEqDiff, F21_0, F21_1, F21_2, F21_3, P21, F9104_0, F9104_1, F9104_2, P9104, h1, h4, h5, hlt, e1, key 2, get3]

/-! ### what the second queue holds -/
theorem mem_ins {t x : List Int} {T : RL} : x ∈ insT t T ↔ x = t ∨ x ∈ T := by
  rw [(perm_ins t T).mem_iff, List.mem_cons]

theorem mem_del {i : Int} {x : List Int} {T : RL} : x ∈ delT i T ↔ x ∈ T ∧ idR x ≠ i := by
  unfold delT; rw [List.mem_filter]; simp

structure TQ (n : Int) (q : Q3) : Prop where
  a : q.1 = n
  q : QI n (dc q.2.1) (dc q.2.2)

theorem armQ_ok {n : Int} {q : Q3} {i d : Int} (h : TQ n q) (ha : armB n i d = true) : TQ n (armQ q i d) ∧ ∀ x, x ∈ dc (armQ q i d).2.1 ↔ x = [i, d] ∨ (x ∈ dc q.2.1 ∧ idR x ≠ i) := by
  obtain ⟨now, tc, mc⟩ := q
  obtain ⟨h1, h2⟩ := h
  simp only at h1 h2
  subst h1
  refine ⟨⟨rfl, h2.arm⟩, fun x => ?_⟩
  have e1 : dc (fn21 1 [now, tc, mc, i, d]) = insT [i, d] (delT i (dc tc)) := by
    show dc (bif armB now i d then cd (insT [i, d] (delT i (dc tc))) else tc) = _; rw [ha, cond_true, dc_cd]
  show x ∈ dc (fn21 1 [now, tc, mc, i, d]) ↔ _
  rw [e1, mem_ins, mem_del]

theorem runA_ok {n o : Int} : ∀ (l : RL) (k : Int) (q : Q3), TQ n q → (∀ r ∈ l, 0 ≤ idR r ∧ idR r < 4096) →
    TQ n (runA o k l q) ∧ (∀ x ∈ dc (runA o k l q).2.1, x ∈ dc q.2.1 ∨ ∃ r ∈ l, idR x = idR r) ∧ (∀ x ∈ dc q.2.1, (∀ r ∈ l, idR x ≠ idR r) → x ∈ dc (runA o k l q).2.1)
  | [], k, q, h, _ => ⟨h, fun x hx => Or.inl hx, fun x hx _ => hx⟩
  | r :: l, k, q, h, hr => by
    have h0 := hr r (List.mem_cons_self ..)
    have hq := h.a
    obtain ⟨a1, a2⟩ := armQ_ok (i := idR r) (d := q.1 + 1 + IntKind.i64.wrap (o + k) % 5000) h (armB_ok h0.1 h0.2 (by omega) (by omega))
    obtain ⟨i1, i2, i3⟩ := runA_ok (o := o) l (k + 1) _ a1 (fun x hx => hr x (List.mem_cons_of_mem _ hx))
    refine ⟨i1, fun x hx => ?_, fun x hx hn => ?_⟩
    · rcases i2 x hx with h1 | ⟨s, hs, e⟩
      · rcases (a2 x).1 h1 with rfl | ⟨h2, _⟩
        · exact Or.inr ⟨r, List.mem_cons_self .., rfl⟩
        · exact Or.inl h2
      · exact Or.inr ⟨s, List.mem_cons_of_mem _ hs, e⟩
    · exact i3 x ((a2 x).2 (Or.inr ⟨hx, hn r (List.mem_cons_self ..)⟩)) fun s hs => hn s (List.mem_cons_of_mem _ hs)

theorem runB_ok {n : Int} : ∀ (l : RL) (q : Q3), TQ n q → rowsOK tmK l → (∀ r ∈ l, armB n (idR r) (dlR r) = true) → l.Pairwise (fun a b => idR a ≠ idR b) →
    TQ n (runB l q) ∧ ∀ x, x ∈ dc (runB l q).2.1 ↔ x ∈ l ∨ (x ∈ dc q.2.1 ∧ ∀ r ∈ l, idR x ≠ idR r)
  | [], q, h, _, _, _ => ⟨h, fun x => by simp [runB]⟩
  | r :: l, q, h, hw, hr, hp => by
    obtain ⟨p1, p2⟩ := List.pairwise_cons.1 hp
    obtain ⟨a1, a2⟩ := armQ_ok (i := idR r) (d := dlR r) h (hr r (List.mem_cons_self ..))
    obtain ⟨i1, i2⟩ := runB_ok l _ a1 (fun x hx => hw x (List.mem_cons_of_mem _ hx)) (fun x hx => hr x (List.mem_cons_of_mem _ hx)) p2
    have er : [idR r, dlR r] = r := by obtain ⟨i, d, rfl, _⟩ := row_eq (hw r (List.mem_cons_self ..)); rfl
    refine ⟨i1, fun x => ?_⟩
    show x ∈ dc (runB l (armQ q (idR r) (dlR r))).2.1 ↔ _
    rw [i2 x, a2 x, er, List.mem_cons]
    constructor
    · rintro (h1 | ⟨rfl | ⟨h1, h2⟩, h3⟩)
      · exact Or.inl (Or.inr h1)
      · exact Or.inl (Or.inl rfl)
      · refine Or.inr ⟨h1, fun s hs => ?_⟩
        rcases List.mem_cons.1 hs with rfl | hs
        · exact h2
        · exact h3 s hs
    · rintro ((rfl | h1) | ⟨h1, h2⟩)
      · exact Or.inr ⟨Or.inl rfl, p1⟩
      · exact Or.inl h1
      · exact Or.inr ⟨Or.inr ⟨h1, h2 r (List.mem_cons_self ..)⟩, fun s hs => h2 s (List.mem_cons_of_mem _ hs)⟩

theorem QI.dis {n : Int} {T M : RL} (h : QI n T M) : T.Pairwise (fun a b => idR a ≠ idR b) := by
  refine List.Pairwise.imp_of_mem (fun {a b} ha hb hab e => ?_) h.srt
  have := h.uid ha hb e
  subst this
  rw [ltT_irr] at hab; cases hab

theorem srt_nodup {T : RL} (h : srtT T) : T.Nodup := List.Pairwise.imp (fun {a b} hab e => by subst e; rw [ltT_irr] at hab; cases hab) h

/-- The second queue, made from the first one's timers, with one more. -/
theorem any_ok {n o : Int} {T M : RL} {q : Q3} (h : QI n T M) (h16 : ∀ r ∈ T, idR r < 16) (hq : TQ n q) (h0 : dc q.2.1 = []) :
    TQ n (armQ q 100 (n + 1)) ∧ TQ n (runA o 0 T (armQ q 100 (n + 1))) ∧ TQ n (runB T.reverse (runA o 0 T (armQ q 100 (n + 1)))) ∧
    delT 100 (dc (runB T.reverse (runA o 0 T (armQ q 100 (n + 1)))).2.1) = T ∧ hasM (dc (runB T.reverse (runA o 0 T (armQ q 100 (n + 1)))).2.2) 100 = true := by
  obtain ⟨a1, a2⟩ := armQ_ok (i := 100) (d := n + 1) hq (armB_ok (by decide) (by decide) (by omega) (by omega))
  have hrg : ∀ r ∈ T, 0 ≤ idR r ∧ idR r < 4096 := fun r hr => ⟨(h.rng r hr).1, (h.rng r hr).2.1⟩
  obtain ⟨b1, b2, b3⟩ := runA_ok (o := o) T 0 _ a1 hrg
  obtain ⟨c1, c2⟩ := runB_ok T.reverse _ b1 (fun r hr => h.row r (List.mem_reverse.1 hr)) (fun r hr => by
    have := h.rng r (List.mem_reverse.1 hr)
    exact armB_ok this.1 this.2.1 this.2.2.1 this.2.2.2) (List.pairwise_reverse.2 (h.dis.imp fun hab => hab.symm))
  have key : ∀ x, x ∈ dc (runB T.reverse (runA o 0 T (armQ q 100 (n + 1)))).2.1 ↔ x ∈ T ∨ x = [100, n + 1] := fun x => by
    rw [c2 x, List.mem_reverse]
    constructor
    · rintro (h1 | ⟨h1, h2⟩)
      · exact Or.inl h1
      · rcases b2 x h1 with h3 | ⟨r, hr, e⟩
        · rcases (a2 x).1 h3 with h4 | ⟨h4, _⟩
          · exact Or.inr h4
          · rw [h0] at h4; cases h4
        · exact absurd e (h2 r (List.mem_reverse.2 hr))
    · rintro (h1 | rfl)
      · exact Or.inl h1
      · have hne : ∀ r ∈ T, idR [100, n + 1] ≠ idR r := fun r hr e => by
          have := h16 r hr
          have e' : (100 : Int) = idR r := e
          omega
        exact Or.inr ⟨b3 _ ((a2 _).2 (Or.inl rfl)) hne, fun r hr => hne r (List.mem_reverse.1 hr)⟩
  refine ⟨a1, b1, c1, ?_, ?_⟩
  · have hs := srt_del c1.q.srt 100
    refine srt_eq hs h.srt ((List.perm_ext_iff_of_nodup (srt_nodup hs) (srt_nodup h.srt)).2 fun x => ?_)
    rw [mem_del, key x]
    constructor
    · rintro ⟨h1 | rfl, h2⟩
      · exact h1
      · exact absurd rfl h2
    · intro h1
      exact ⟨Or.inl h1, by have := h16 x h1; omega⟩
  · exact (c1.q.has 100).2 ⟨n + 1, (key _).2 (Or.inr rfl)⟩

theorem cQ4ok : cQ4.OK Try.prog G0 := by
  have h1 : Ctx.OK Try.prog G0 ⟨e13 :: e12 :: cE.fs, []⟩ := (cEok.addF ok12 rfl).addF ok13 rfl
  exact ((h1.addL lo4a rfl).addL lo4b rfl).sub rfl (by simp [cQ4, cE]) (by simp [cQ4])

set_option maxHeartbeats 4000000 in
theorem ok4 : EntryOK Try.prog G0 e4 := cQ4ok.nm.entryR mixed ev_4 _ rfl _ rfl fun xs hf hp => by
  obtain ⟨l, hl, hF⟩ := ctx_P (l0 := cQ4n.l)
  show ∃ ρ : Nat → Int, _ ∧ ob_4.tt cQ4n.l.F ρ = true ∧ outsP e4.fn _ cQ4n.l.F ρ _ _ _
  rw [hl]
  have P12 := (hF e12.nm (by rfl) (by decide)).2
  replace P12 : ∀ xs, (i2b (K.b.norm (l.F 100000012 1000000 xs)) = true) = _ := P12
  have F13_0 : ∀ xs, l.F 100000013 0 xs = e13.nm.fn 0 xs := (hF e13.nm (by rfl) (by decide)).1 0 rfl
  have F13_1 : ∀ xs, l.F 100000013 1 xs = e13.nm.fn 1 xs := (hF e13.nm (by rfl) (by decide)).1 1 rfl
  have F13_2 : ∀ xs, l.F 100000013 2 xs = e13.nm.fn 2 xs := (hF e13.nm (by rfl) (by decide)).1 2 rfl
  have P13 := (hF e13.nm (by rfl) (by decide)).2
  replace P13 : ∀ xs, (i2b (K.b.norm (l.F 100000013 1000000 xs)) = true) = _ := P13
  have F14_0 : ∀ xs, l.F 100000014 0 xs = e14.nm.fn 0 xs := (hF e14.nm (by rfl) (by decide)).1 0 rfl
  have P14 := (hF e14.nm (by rfl) (by decide)).2
  replace P14 : ∀ xs, (i2b (K.b.norm (l.F 100000014 1000000 xs)) = true) = _ := P14
  have F17_0 : ∀ xs, l.F 100000017 0 xs = e17.nm.fn 0 xs := (hF e17.nm (by rfl) (by decide)).1 0 rfl
  have P17 := (hF e17.nm (by rfl) (by decide)).2
  replace P17 : ∀ xs, (i2b (K.b.norm (l.F 100000017 1000000 xs)) = true) = _ := P17
  have F18_0 : ∀ xs, l.F 100000018 0 xs = e18.nm.fn 0 xs := (hF e18.nm (by rfl) (by decide)).1 0 rfl
  have P18 := (hF e18.nm (by rfl) (by decide)).2
  replace P18 : ∀ xs, (i2b (K.b.norm (l.F 100000018 1000000 xs)) = true) = _ := P18
  have F20_0 : ∀ xs, l.F 100000020 0 xs = e20.nm.fn 0 xs := (hF e20.nm (by rfl) (by decide)).1 0 rfl
  have F20_1 : ∀ xs, l.F 100000020 1 xs = e20.nm.fn 1 xs := (hF e20.nm (by rfl) (by decide)).1 1 rfl
  have F20_2 : ∀ xs, l.F 100000020 2 xs = e20.nm.fn 2 xs := (hF e20.nm (by rfl) (by decide)).1 2 rfl
  have P20 := (hF e20.nm (by rfl) (by decide)).2
  replace P20 : ∀ xs, (i2b (K.b.norm (l.F 100000020 1000000 xs)) = true) = _ := P20
  have F21_0 : ∀ xs, l.F 100000021 0 xs = e21.nm.fn 0 xs := (hF e21.nm (by rfl) (by decide)).1 0 rfl
  have F21_1 : ∀ xs, l.F 100000021 1 xs = e21.nm.fn 1 xs := (hF e21.nm (by rfl) (by decide)).1 1 rfl
  have F21_2 : ∀ xs, l.F 100000021 2 xs = e21.nm.fn 2 xs := (hF e21.nm (by rfl) (by decide)).1 2 rfl
  have F21_3 : ∀ xs, l.F 100000021 3 xs = e21.nm.fn 3 xs := (hF e21.nm (by rfl) (by decide)).1 3 rfl
  have P21 := (hF e21.nm (by rfl) (by decide)).2
  replace P21 : ∀ xs, (i2b (K.b.norm (l.F 100000021 1000000 xs)) = true) = _ := P21
  have F22_0 : ∀ xs, l.F 100000022 0 xs = e22.nm.fn 0 xs := (hF e22.nm (by rfl) (by decide)).1 0 rfl
  have F22_1 : ∀ xs, l.F 100000022 1 xs = e22.nm.fn 1 xs := (hF e22.nm (by rfl) (by decide)).1 1 rfl
  have F22_2 : ∀ xs, l.F 100000022 2 xs = e22.nm.fn 2 xs := (hF e22.nm (by rfl) (by decide)).1 2 rfl
  have F22_3 : ∀ xs, l.F 100000022 3 xs = e22.nm.fn 3 xs := (hF e22.nm (by rfl) (by decide)).1 3 rfl
  have P22 := (hF e22.nm (by rfl) (by decide)).2
  replace P22 : ∀ xs, (i2b (K.b.norm (l.F 100000022 1000000 xs)) = true) = _ := P22
  have F9004_0 : ∀ xs, l.F 100009004 0 xs = le4a.nm.ent.fn 0 xs := (hF le4a.nm.ent (by rfl) (by decide)).1 0 rfl
  have F9004_1 : ∀ xs, l.F 100009004 1 xs = le4a.nm.ent.fn 1 xs := (hF le4a.nm.ent (by rfl) (by decide)).1 1 rfl
  have F9004_2 : ∀ xs, l.F 100009004 2 xs = le4a.nm.ent.fn 2 xs := (hF le4a.nm.ent (by rfl) (by decide)).1 2 rfl
  have P9004 := (hF le4a.nm.ent (by rfl) (by decide)).2
  replace P9004 : ∀ xs, (i2b (K.b.norm (l.F 100009004 1000000 xs)) = true) = _ := P9004
  have F9104_0 : ∀ xs, l.F 100009104 0 xs = le4b.nm.ent.fn 0 xs := (hF le4b.nm.ent (by rfl) (by decide)).1 0 rfl
  have F9104_1 : ∀ xs, l.F 100009104 1 xs = le4b.nm.ent.fn 1 xs := (hF le4b.nm.ent (by rfl) (by decide)).1 1 rfl
  have F9104_2 : ∀ xs, l.F 100009104 2 xs = le4b.nm.ent.fn 2 xs := (hF le4b.nm.ent (by rfl) (by decide)).1 2 rfl
  have P9104 := (hF le4b.nm.ent (by rfl) (by decide)).2
  replace P9104 : ∀ xs, (i2b (K.b.norm (l.F 100009104 1000000 xs)) = true) = _ := P9104
  obtain ⟨ρ, hρ, hd⟩ := solve (F := l.F) 3 defs_4 (by kernel_rfl) xs
  replace hd := fun n x (h : defs_4[n]? = some x) => hd x (List.mem_of_getElem? h)
  refine ⟨ρ, hρ, ?_⟩
  have hd1 := hd 0 _ rfl
  have hn1 : K.norm (.i .i64) (ρ 640000083200064) = ρ 640000083200064 := by rw [hd1]; simp only [den_app]; exact K.norm_norm _ _
  obtain ⟨v1, hv1⟩ : ∃ v, ρ 640000083200064 = v := ⟨_, rfl⟩
  simp only [norm_i, hv1] at hd1 hn1
  simp (disch := omega) only [den_app, F13_0, Ent.nm_fn, hv1, hn1, ewA, preC, binI, dvI, shI, cmpB, env, List.map_cons, List.map_nil, List.getD_cons_succ, List.getD_cons_zero, List.getElem?_cons_zero, List.getElem?_cons_succ, bi, List.headD, List.tail, List.map, List.nil_append, List.cons_append, Int.toNat_zero, Int.toNat_one, Int.toNat_natCast, Nat.zero_add, Nat.reduceAdd, ewB, pdec, pndec, Int.not_lt, Int.not_le, if_true, if_false, ite_true, ite_false, true_and, and_true, false_and, and_false, true_implies, implies_true, false_implies, forall_const, not_true_eq_false, not_false_eq_true, ne_eq, reduceCtorEq, List.take_length, List.drop_zero, Int.reduceEq, Int.reduceLT, Int.reduceLE, Int.reduceToNat, Int.reduceAdd, Int.reduceSub, Int.reduceMul, Int.reduceNeg, Int.reduceBEq, Nat.reduceAdd, Nat.reduceLT, Nat.reduceEqDiff] at hd1
  have hd2 := hd 1 _ rfl
  obtain ⟨v2, hv2⟩ : ∃ v, ρ 640000083200065 = v := ⟨_, rfl⟩
  simp only [norm_i, hv2] at hd2
  simp (disch := omega) only [den_app, F13_1, Ent.nm_fn, hv1, hn1, hv2, ewA, preC, binI, dvI, shI, cmpB, env, List.map_cons, List.map_nil, List.getD_cons_succ, List.getD_cons_zero, List.getElem?_cons_zero, List.getElem?_cons_succ, bi, List.headD, List.tail, List.map, List.nil_append, List.cons_append, Int.toNat_zero, Int.toNat_one, Int.toNat_natCast, Nat.zero_add, Nat.reduceAdd, ewB, pdec, pndec, Int.not_lt, Int.not_le, if_true, if_false, ite_true, ite_false, true_and, and_true, false_and, and_false, true_implies, implies_true, false_implies, forall_const, not_true_eq_false, not_false_eq_true, ne_eq, reduceCtorEq, List.take_length, List.drop_zero, Int.reduceEq, Int.reduceLT, Int.reduceLE, Int.reduceToNat, Int.reduceAdd, Int.reduceSub, Int.reduceMul, Int.reduceNeg, Int.reduceBEq, Nat.reduceAdd, Nat.reduceLT, Nat.reduceEqDiff] at hd2
  have hd3 := hd 2 _ rfl
  obtain ⟨v3, hv3⟩ : ∃ v, ρ 640000083200066 = v := ⟨_, rfl⟩
  simp only [norm_i, hv3] at hd3
  simp (disch := omega) only [den_app, F13_2, Ent.nm_fn, hv1, hn1, hv2, hv3, ewA, preC, binI, dvI, shI, cmpB, env, List.map_cons, List.map_nil, List.getD_cons_succ, List.getD_cons_zero, List.getElem?_cons_zero, List.getElem?_cons_succ, bi, List.headD, List.tail, List.map, List.nil_append, List.cons_append, Int.toNat_zero, Int.toNat_one, Int.toNat_natCast, Nat.zero_add, Nat.reduceAdd, ewB, pdec, pndec, Int.not_lt, Int.not_le, if_true, if_false, ite_true, ite_false, true_and, and_true, false_and, and_false, true_implies, implies_true, false_implies, forall_const, not_true_eq_false, not_false_eq_true, ne_eq, reduceCtorEq, List.take_length, List.drop_zero, Int.reduceEq, Int.reduceLT, Int.reduceLE, Int.reduceToNat, Int.reduceAdd, Int.reduceSub, Int.reduceMul, Int.reduceNeg, Int.reduceBEq, Nat.reduceAdd, Nat.reduceLT, Nat.reduceEqDiff] at hd3
  have hd4 := hd 3 _ rfl
  obtain ⟨v4, hv4⟩ : ∃ v, ρ 640000089600576 = v := ⟨_, rfl⟩
  simp only [norm_i, hv4] at hd4
  simp (disch := omega) only [den_app, F14_0, Ent.nm_fn, hv1, hn1, hv2, hv3, hv4, ewA, preC, binI, dvI, shI, cmpB, env, List.map_cons, List.map_nil, List.getD_cons_succ, List.getD_cons_zero, List.getElem?_cons_zero, List.getElem?_cons_succ, bi, List.headD, List.tail, List.map, List.nil_append, List.cons_append, Int.toNat_zero, Int.toNat_one, Int.toNat_natCast, Nat.zero_add, Nat.reduceAdd, ewB, pdec, pndec, Int.not_lt, Int.not_le, if_true, if_false, ite_true, ite_false, true_and, and_true, false_and, and_false, true_implies, implies_true, false_implies, forall_const, not_true_eq_false, not_false_eq_true, ne_eq, reduceCtorEq, List.take_length, List.drop_zero, Int.reduceEq, Int.reduceLT, Int.reduceLE, Int.reduceToNat, Int.reduceAdd, Int.reduceSub, Int.reduceMul, Int.reduceNeg, Int.reduceBEq, Nat.reduceAdd, Nat.reduceLT, Nat.reduceEqDiff] at hd4
  have hd5 := hd 4 _ rfl
  have hn5 : K.norm (.i .i64) (ρ 640000108801088) = ρ 640000108801088 := by rw [hd5]; simp only [den_app]; exact K.norm_norm _ _
  obtain ⟨v5, hv5⟩ : ∃ v, ρ 640000108801088 = v := ⟨_, rfl⟩
  simp only [norm_i, hv5] at hd5 hn5
  simp (disch := omega) only [den_app, F17_0, Ent.nm_fn, hv1, hn1, hv2, hv3, hv4, hv5, hn5, ewA, preC, binI, dvI, shI, cmpB, env, List.map_cons, List.map_nil, List.getD_cons_succ, List.getD_cons_zero, List.getElem?_cons_zero, List.getElem?_cons_succ, bi, List.headD, List.tail, List.map, List.nil_append, List.cons_append, Int.toNat_zero, Int.toNat_one, Int.toNat_natCast, Nat.zero_add, Nat.reduceAdd, ewB, pdec, pndec, Int.not_lt, Int.not_le, if_true, if_false, ite_true, ite_false, true_and, and_true, false_and, and_false, true_implies, implies_true, false_implies, forall_const, not_true_eq_false, not_false_eq_true, ne_eq, reduceCtorEq, List.take_length, List.drop_zero, Int.reduceEq, Int.reduceLT, Int.reduceLE, Int.reduceToNat, Int.reduceAdd, Int.reduceSub, Int.reduceMul, Int.reduceNeg, Int.reduceBEq, Nat.reduceAdd, Nat.reduceLT, Nat.reduceEqDiff] at hd5
  have hd6 := hd 5 _ rfl
  have hn6 : K.norm (.i .i64) (ρ 640000128001088) = ρ 640000128001088 := by rw [hd6]; simp only [den_app]; exact K.norm_norm _ _
  obtain ⟨v6, hv6⟩ : ∃ v, ρ 640000128001088 = v := ⟨_, rfl⟩
  simp only [norm_i, hv6] at hd6 hn6
  simp (disch := omega) only [den_app, F20_0, Ent.nm_fn, hv1, hn1, hv2, hv3, hv4, hv5, hn5, hv6, hn6, ewA, preC, binI, dvI, shI, cmpB, env, List.map_cons, List.map_nil, List.getD_cons_succ, List.getD_cons_zero, List.getElem?_cons_zero, List.getElem?_cons_succ, bi, List.headD, List.tail, List.map, List.nil_append, List.cons_append, Int.toNat_zero, Int.toNat_one, Int.toNat_natCast, Nat.zero_add, Nat.reduceAdd, ewB, pdec, pndec, Int.not_lt, Int.not_le, if_true, if_false, ite_true, ite_false, true_and, and_true, false_and, and_false, true_implies, implies_true, false_implies, forall_const, not_true_eq_false, not_false_eq_true, ne_eq, reduceCtorEq, List.take_length, List.drop_zero, Int.reduceEq, Int.reduceLT, Int.reduceLE, Int.reduceToNat, Int.reduceAdd, Int.reduceSub, Int.reduceMul, Int.reduceNeg, Int.reduceBEq, Nat.reduceAdd, Nat.reduceLT, Nat.reduceEqDiff] at hd6
  have hd7 := hd 6 _ rfl
  obtain ⟨v7, hv7⟩ : ∃ v, ρ 640000128001089 = v := ⟨_, rfl⟩
  simp only [norm_i, hv7] at hd7
  simp (disch := omega) only [den_app, F20_1, Ent.nm_fn, hv1, hn1, hv2, hv3, hv4, hv5, hn5, hv6, hn6, hv7, ewA, preC, binI, dvI, shI, cmpB, env, List.map_cons, List.map_nil, List.getD_cons_succ, List.getD_cons_zero, List.getElem?_cons_zero, List.getElem?_cons_succ, bi, List.headD, List.tail, List.map, List.nil_append, List.cons_append, Int.toNat_zero, Int.toNat_one, Int.toNat_natCast, Nat.zero_add, Nat.reduceAdd, ewB, pdec, pndec, Int.not_lt, Int.not_le, if_true, if_false, ite_true, ite_false, true_and, and_true, false_and, and_false, true_implies, implies_true, false_implies, forall_const, not_true_eq_false, not_false_eq_true, ne_eq, reduceCtorEq, List.take_length, List.drop_zero, Int.reduceEq, Int.reduceLT, Int.reduceLE, Int.reduceToNat, Int.reduceAdd, Int.reduceSub, Int.reduceMul, Int.reduceNeg, Int.reduceBEq, Nat.reduceAdd, Nat.reduceLT, Nat.reduceEqDiff] at hd7
  have hd8 := hd 7 _ rfl
  obtain ⟨v8, hv8⟩ : ∃ v, ρ 640000128001090 = v := ⟨_, rfl⟩
  simp only [norm_i, hv8] at hd8
  simp (disch := omega) only [den_app, F20_2, Ent.nm_fn, hv1, hn1, hv2, hv3, hv4, hv5, hn5, hv6, hn6, hv7, hv8, ewA, preC, binI, dvI, shI, cmpB, env, List.map_cons, List.map_nil, List.getD_cons_succ, List.getD_cons_zero, List.getElem?_cons_zero, List.getElem?_cons_succ, bi, List.headD, List.tail, List.map, List.nil_append, List.cons_append, Int.toNat_zero, Int.toNat_one, Int.toNat_natCast, Nat.zero_add, Nat.reduceAdd, ewB, pdec, pndec, Int.not_lt, Int.not_le, if_true, if_false, ite_true, ite_false, true_and, and_true, false_and, and_false, true_implies, implies_true, false_implies, forall_const, not_true_eq_false, not_false_eq_true, ne_eq, reduceCtorEq, List.take_length, List.drop_zero, Int.reduceEq, Int.reduceLT, Int.reduceLE, Int.reduceToNat, Int.reduceAdd, Int.reduceSub, Int.reduceMul, Int.reduceNeg, Int.reduceBEq, Nat.reduceAdd, Nat.reduceLT, Nat.reduceEqDiff] at hd8
  have hd9 := hd 8 _ rfl
  have hn9 : K.norm (.i .i64) (ρ 640000108801600) = ρ 640000108801600 := by rw [hd9]; simp only [den_app]; exact K.norm_norm _ _
  obtain ⟨v9, hv9⟩ : ∃ v, ρ 640000108801600 = v := ⟨_, rfl⟩
  simp only [norm_i, hv9] at hd9 hn9
  simp (disch := omega) only [den_app, F17_0, Ent.nm_fn, hv1, hn1, hv2, hv3, hv4, hv5, hn5, hv6, hn6, hv7, hv8, hv9, hn9, ewA, preC, binI, dvI, shI, cmpB, env, List.map_cons, List.map_nil, List.getD_cons_succ, List.getD_cons_zero, List.getElem?_cons_zero, List.getElem?_cons_succ, bi, List.headD, List.tail, List.map, List.nil_append, List.cons_append, Int.toNat_zero, Int.toNat_one, Int.toNat_natCast, Nat.zero_add, Nat.reduceAdd, ewB, pdec, pndec, Int.not_lt, Int.not_le, if_true, if_false, ite_true, ite_false, true_and, and_true, false_and, and_false, true_implies, implies_true, false_implies, forall_const, not_true_eq_false, not_false_eq_true, ne_eq, reduceCtorEq, List.take_length, List.drop_zero, Int.reduceEq, Int.reduceLT, Int.reduceLE, Int.reduceToNat, Int.reduceAdd, Int.reduceSub, Int.reduceMul, Int.reduceNeg, Int.reduceBEq, Nat.reduceAdd, Nat.reduceLT, Nat.reduceEqDiff] at hd9
  have hd10 := hd 9 _ rfl
  have hn10 : K.norm (.i .i64) (ρ 640000134401600) = ρ 640000134401600 := by rw [hd10]; simp only [den_app]; exact K.norm_norm _ _
  obtain ⟨v10, hv10⟩ : ∃ v, ρ 640000134401600 = v := ⟨_, rfl⟩
  simp only [norm_i, hv10] at hd10 hn10
  simp (disch := omega) only [den_app, F21_0, Ent.nm_fn, hv1, hn1, hv2, hv3, hv4, hv5, hn5, hv6, hn6, hv7, hv8, hv9, hn9, hv10, hn10, ewA, preC, binI, dvI, shI, cmpB, env, List.map_cons, List.map_nil, List.getD_cons_succ, List.getD_cons_zero, List.getElem?_cons_zero, List.getElem?_cons_succ, bi, List.headD, List.tail, List.map, List.nil_append, List.cons_append, Int.toNat_zero, Int.toNat_one, Int.toNat_natCast, Nat.zero_add, Nat.reduceAdd, ewB, pdec, pndec, Int.not_lt, Int.not_le, if_true, if_false, ite_true, ite_false, true_and, and_true, false_and, and_false, true_implies, implies_true, false_implies, forall_const, not_true_eq_false, not_false_eq_true, ne_eq, reduceCtorEq, List.take_length, List.drop_zero, Int.reduceEq, Int.reduceLT, Int.reduceLE, Int.reduceToNat, Int.reduceAdd, Int.reduceSub, Int.reduceMul, Int.reduceNeg, Int.reduceBEq, Nat.reduceAdd, Nat.reduceLT, Nat.reduceEqDiff] at hd10
  have hd11 := hd 10 _ rfl
  obtain ⟨v11, hv11⟩ : ∃ v, ρ 640000134401601 = v := ⟨_, rfl⟩
  simp only [norm_i, hv11] at hd11
  simp (disch := omega) only [den_app, F21_1, Ent.nm_fn, hv1, hn1, hv2, hv3, hv4, hv5, hn5, hv6, hn6, hv7, hv8, hv9, hn9, hv10, hn10, hv11, ewA, preC, binI, dvI, shI, cmpB, env, List.map_cons, List.map_nil, List.getD_cons_succ, List.getD_cons_zero, List.getElem?_cons_zero, List.getElem?_cons_succ, bi, List.headD, List.tail, List.map, List.nil_append, List.cons_append, Int.toNat_zero, Int.toNat_one, Int.toNat_natCast, Nat.zero_add, Nat.reduceAdd, ewB, pdec, pndec, Int.not_lt, Int.not_le, if_true, if_false, ite_true, ite_false, true_and, and_true, false_and, and_false, true_implies, implies_true, false_implies, forall_const, not_true_eq_false, not_false_eq_true, ne_eq, reduceCtorEq, List.take_length, List.drop_zero, Int.reduceEq, Int.reduceLT, Int.reduceLE, Int.reduceToNat, Int.reduceAdd, Int.reduceSub, Int.reduceMul, Int.reduceNeg, Int.reduceBEq, Nat.reduceAdd, Nat.reduceLT, Nat.reduceEqDiff] at hd11
  have hd12 := hd 11 _ rfl
  obtain ⟨v12, hv12⟩ : ∃ v, ρ 640000134401602 = v := ⟨_, rfl⟩
  simp only [norm_i, hv12] at hd12
  simp (disch := omega) only [den_app, F21_2, Ent.nm_fn, hv1, hn1, hv2, hv3, hv4, hv5, hn5, hv6, hn6, hv7, hv8, hv9, hn9, hv10, hn10, hv11, hv12, ewA, preC, binI, dvI, shI, cmpB, env, List.map_cons, List.map_nil, List.getD_cons_succ, List.getD_cons_zero, List.getElem?_cons_zero, List.getElem?_cons_succ, bi, List.headD, List.tail, List.map, List.nil_append, List.cons_append, Int.toNat_zero, Int.toNat_one, Int.toNat_natCast, Nat.zero_add, Nat.reduceAdd, ewB, pdec, pndec, Int.not_lt, Int.not_le, if_true, if_false, ite_true, ite_false, true_and, and_true, false_and, and_false, true_implies, implies_true, false_implies, forall_const, not_true_eq_false, not_false_eq_true, ne_eq, reduceCtorEq, List.take_length, List.drop_zero, Int.reduceEq, Int.reduceLT, Int.reduceLE, Int.reduceToNat, Int.reduceAdd, Int.reduceSub, Int.reduceMul, Int.reduceNeg, Int.reduceBEq, Nat.reduceAdd, Nat.reduceLT, Nat.reduceEqDiff] at hd12
  have hd13 := hd 12 _ rfl
  have hn13 : K.norm (.i .i64) (ρ 640000134401603) = ρ 640000134401603 := by rw [hd13]; simp only [den_app]; exact K.norm_norm _ _
  obtain ⟨v13, hv13⟩ : ∃ v, ρ 640000134401603 = v := ⟨_, rfl⟩
  simp only [norm_i, hv13] at hd13 hn13
  simp (disch := omega) only [den_app, F21_3, Ent.nm_fn, hv1, hn1, hv2, hv3, hv4, hv5, hn5, hv6, hn6, hv7, hv8, hv9, hn9, hv10, hn10, hv11, hv12, hv13, hn13, ewA, preC, binI, dvI, shI, cmpB, env, List.map_cons, List.map_nil, List.getD_cons_succ, List.getD_cons_zero, List.getElem?_cons_zero, List.getElem?_cons_succ, bi, List.headD, List.tail, List.map, List.nil_append, List.cons_append, Int.toNat_zero, Int.toNat_one, Int.toNat_natCast, Nat.zero_add, Nat.reduceAdd, ewB, pdec, pndec, Int.not_lt, Int.not_le, if_true, if_false, ite_true, ite_false, true_and, and_true, false_and, and_false, true_implies, implies_true, false_implies, forall_const, not_true_eq_false, not_false_eq_true, ne_eq, reduceCtorEq, List.take_length, List.drop_zero, Int.reduceEq, Int.reduceLT, Int.reduceLE, Int.reduceToNat, Int.reduceAdd, Int.reduceSub, Int.reduceMul, Int.reduceNeg, Int.reduceBEq, Nat.reduceAdd, Nat.reduceLT, Nat.reduceEqDiff] at hd13
  have hd14 := hd 13 _ rfl
  have hn14 : K.norm (.i .i64) (ρ 640057625602112) = ρ 640057625602112 := by rw [hd14]; simp only [den_app]; exact K.norm_norm _ _
  obtain ⟨v14, hv14⟩ : ∃ v, ρ 640057625602112 = v := ⟨_, rfl⟩
  simp only [norm_i, hv14] at hd14 hn14
  simp (disch := omega) only [den_app, F9004_0, Ent.nm_fn, hv1, hn1, hv2, hv3, hv4, hv5, hn5, hv6, hn6, hv7, hv8, hv9, hn9, hv10, hn10, hv11, hv12, hv13, hn13, hv14, hn14, ewA, preC, binI, dvI, shI, cmpB, env, List.map_cons, List.map_nil, List.getD_cons_succ, List.getD_cons_zero, List.getElem?_cons_zero, List.getElem?_cons_succ, bi, List.headD, List.tail, List.map, List.nil_append, List.cons_append, Int.toNat_zero, Int.toNat_one, Int.toNat_natCast, Nat.zero_add, Nat.reduceAdd, ewB, pdec, pndec, Int.not_lt, Int.not_le, if_true, if_false, ite_true, ite_false, true_and, and_true, false_and, and_false, true_implies, implies_true, false_implies, forall_const, not_true_eq_false, not_false_eq_true, ne_eq, reduceCtorEq, List.take_length, List.drop_zero, Int.reduceEq, Int.reduceLT, Int.reduceLE, Int.reduceToNat, Int.reduceAdd, Int.reduceSub, Int.reduceMul, Int.reduceNeg, Int.reduceBEq, Nat.reduceAdd, Nat.reduceLT, Nat.reduceEqDiff] at hd14
  have hd15 := hd 14 _ rfl
  obtain ⟨v15, hv15⟩ : ∃ v, ρ 640057625602113 = v := ⟨_, rfl⟩
  simp only [norm_i, hv15] at hd15
  simp (disch := omega) only [den_app, F9004_1, Ent.nm_fn, hv1, hn1, hv2, hv3, hv4, hv5, hn5, hv6, hn6, hv7, hv8, hv9, hn9, hv10, hn10, hv11, hv12, hv13, hn13, hv14, hn14, hv15, ewA, preC, binI, dvI, shI, cmpB, env, List.map_cons, List.map_nil, List.getD_cons_succ, List.getD_cons_zero, List.getElem?_cons_zero, List.getElem?_cons_succ, bi, List.headD, List.tail, List.map, List.nil_append, List.cons_append, Int.toNat_zero, Int.toNat_one, Int.toNat_natCast, Nat.zero_add, Nat.reduceAdd, ewB, pdec, pndec, Int.not_lt, Int.not_le, if_true, if_false, ite_true, ite_false, true_and, and_true, false_and, and_false, true_implies, implies_true, false_implies, forall_const, not_true_eq_false, not_false_eq_true, ne_eq, reduceCtorEq, List.take_length, List.drop_zero, Int.reduceEq, Int.reduceLT, Int.reduceLE, Int.reduceToNat, Int.reduceAdd, Int.reduceSub, Int.reduceMul, Int.reduceNeg, Int.reduceBEq, Nat.reduceAdd, Nat.reduceLT, Nat.reduceEqDiff] at hd15
  have hd16 := hd 15 _ rfl
  obtain ⟨v16, hv16⟩ : ∃ v, ρ 640057625602114 = v := ⟨_, rfl⟩
  simp only [norm_i, hv16] at hd16
  simp (disch := omega) only [den_app, F9004_2, Ent.nm_fn, hv1, hn1, hv2, hv3, hv4, hv5, hn5, hv6, hn6, hv7, hv8, hv9, hn9, hv10, hn10, hv11, hv12, hv13, hn13, hv14, hn14, hv15, hv16, ewA, preC, binI, dvI, shI, cmpB, env, List.map_cons, List.map_nil, List.getD_cons_succ, List.getD_cons_zero, List.getElem?_cons_zero, List.getElem?_cons_succ, bi, List.headD, List.tail, List.map, List.nil_append, List.cons_append, Int.toNat_zero, Int.toNat_one, Int.toNat_natCast, Nat.zero_add, Nat.reduceAdd, ewB, pdec, pndec, Int.not_lt, Int.not_le, if_true, if_false, ite_true, ite_false, true_and, and_true, false_and, and_false, true_implies, implies_true, false_implies, forall_const, not_true_eq_false, not_false_eq_true, ne_eq, reduceCtorEq, List.take_length, List.drop_zero, Int.reduceEq, Int.reduceLT, Int.reduceLE, Int.reduceToNat, Int.reduceAdd, Int.reduceSub, Int.reduceMul, Int.reduceNeg, Int.reduceBEq, Nat.reduceAdd, Nat.reduceLT, Nat.reduceEqDiff] at hd16
  have hd17 := hd 16 _ rfl
  have hn17 : K.norm (.i .i64) (ρ 640058265602240) = ρ 640058265602240 := by rw [hd17]; simp only [den_app]; exact K.norm_norm _ _
  obtain ⟨v17, hv17⟩ : ∃ v, ρ 640058265602240 = v := ⟨_, rfl⟩
  simp only [norm_i, hv17] at hd17 hn17
  simp (disch := omega) only [den_app, F9104_0, Ent.nm_fn, hv1, hn1, hv2, hv3, hv4, hv5, hn5, hv6, hn6, hv7, hv8, hv9, hn9, hv10, hn10, hv11, hv12, hv13, hn13, hv14, hn14, hv15, hv16, hv17, hn17, ewA, preC, binI, dvI, shI, cmpB, env, List.map_cons, List.map_nil, List.getD_cons_succ, List.getD_cons_zero, List.getElem?_cons_zero, List.getElem?_cons_succ, bi, List.headD, List.tail, List.map, List.nil_append, List.cons_append, Int.toNat_zero, Int.toNat_one, Int.toNat_natCast, Nat.zero_add, Nat.reduceAdd, ewB, pdec, pndec, Int.not_lt, Int.not_le, if_true, if_false, ite_true, ite_false, true_and, and_true, false_and, and_false, true_implies, implies_true, false_implies, forall_const, not_true_eq_false, not_false_eq_true, ne_eq, reduceCtorEq, List.take_length, List.drop_zero, Int.reduceEq, Int.reduceLT, Int.reduceLE, Int.reduceToNat, Int.reduceAdd, Int.reduceSub, Int.reduceMul, Int.reduceNeg, Int.reduceBEq, Nat.reduceAdd, Nat.reduceLT, Nat.reduceEqDiff] at hd17
  have hd18 := hd 17 _ rfl
  obtain ⟨v18, hv18⟩ : ∃ v, ρ 640058265602241 = v := ⟨_, rfl⟩
  simp only [norm_i, hv18] at hd18
  simp (disch := omega) only [den_app, F9104_1, Ent.nm_fn, hv1, hn1, hv2, hv3, hv4, hv5, hn5, hv6, hn6, hv7, hv8, hv9, hn9, hv10, hn10, hv11, hv12, hv13, hn13, hv14, hn14, hv15, hv16, hv17, hn17, hv18, ewA, preC, binI, dvI, shI, cmpB, env, List.map_cons, List.map_nil, List.getD_cons_succ, List.getD_cons_zero, List.getElem?_cons_zero, List.getElem?_cons_succ, bi, List.headD, List.tail, List.map, List.nil_append, List.cons_append, Int.toNat_zero, Int.toNat_one, Int.toNat_natCast, Nat.zero_add, Nat.reduceAdd, ewB, pdec, pndec, Int.not_lt, Int.not_le, if_true, if_false, ite_true, ite_false, true_and, and_true, false_and, and_false, true_implies, implies_true, false_implies, forall_const, not_true_eq_false, not_false_eq_true, ne_eq, reduceCtorEq, List.take_length, List.drop_zero, Int.reduceEq, Int.reduceLT, Int.reduceLE, Int.reduceToNat, Int.reduceAdd, Int.reduceSub, Int.reduceMul, Int.reduceNeg, Int.reduceBEq, Nat.reduceAdd, Nat.reduceLT, Nat.reduceEqDiff] at hd18
  have hd19 := hd 18 _ rfl
  obtain ⟨v19, hv19⟩ : ∃ v, ρ 640058265602242 = v := ⟨_, rfl⟩
  simp only [norm_i, hv19] at hd19
  simp (disch := omega) only [den_app, F9104_2, Ent.nm_fn, hv1, hn1, hv2, hv3, hv4, hv5, hn5, hv6, hn6, hv7, hv8, hv9, hn9, hv10, hn10, hv11, hv12, hv13, hn13, hv14, hn14, hv15, hv16, hv17, hn17, hv18, hv19, ewA, preC, binI, dvI, shI, cmpB, env, List.map_cons, List.map_nil, List.getD_cons_succ, List.getD_cons_zero, List.getElem?_cons_zero, List.getElem?_cons_succ, bi, List.headD, List.tail, List.map, List.nil_append, List.cons_append, Int.toNat_zero, Int.toNat_one, Int.toNat_natCast, Nat.zero_add, Nat.reduceAdd, ewB, pdec, pndec, Int.not_lt, Int.not_le, if_true, if_false, ite_true, ite_false, true_and, and_true, false_and, and_false, true_implies, implies_true, false_implies, forall_const, not_true_eq_false, not_false_eq_true, ne_eq, reduceCtorEq, List.take_length, List.drop_zero, Int.reduceEq, Int.reduceLT, Int.reduceLE, Int.reduceToNat, Int.reduceAdd, Int.reduceSub, Int.reduceMul, Int.reduceNeg, Int.reduceBEq, Nat.reduceAdd, Nat.reduceLT, Nat.reduceEqDiff] at hd19
  have hd20 := hd 19 _ rfl
  have hn20 : K.norm (.i .i64) (ρ 640000140802368) = ρ 640000140802368 := by rw [hd20]; simp only [den_app]; exact K.norm_norm _ _
  obtain ⟨v20, hv20⟩ : ∃ v, ρ 640000140802368 = v := ⟨_, rfl⟩
  simp only [norm_i, hv20] at hd20 hn20
  simp (disch := omega) only [den_app, F22_0, Ent.nm_fn, hv1, hn1, hv2, hv3, hv4, hv5, hn5, hv6, hn6, hv7, hv8, hv9, hn9, hv10, hn10, hv11, hv12, hv13, hn13, hv14, hn14, hv15, hv16, hv17, hn17, hv18, hv19, hv20, hn20, ewA, preC, binI, dvI, shI, cmpB, env, List.map_cons, List.map_nil, List.getD_cons_succ, List.getD_cons_zero, List.getElem?_cons_zero, List.getElem?_cons_succ, bi, List.headD, List.tail, List.map, List.nil_append, List.cons_append, Int.toNat_zero, Int.toNat_one, Int.toNat_natCast, Nat.zero_add, Nat.reduceAdd, ewB, pdec, pndec, Int.not_lt, Int.not_le, if_true, if_false, ite_true, ite_false, true_and, and_true, false_and, and_false, true_implies, implies_true, false_implies, forall_const, not_true_eq_false, not_false_eq_true, ne_eq, reduceCtorEq, List.take_length, List.drop_zero, Int.reduceEq, Int.reduceLT, Int.reduceLE, Int.reduceToNat, Int.reduceAdd, Int.reduceSub, Int.reduceMul, Int.reduceNeg, Int.reduceBEq, Nat.reduceAdd, Nat.reduceLT, Nat.reduceEqDiff] at hd20
  have hd21 := hd 20 _ rfl
  obtain ⟨v21, hv21⟩ : ∃ v, ρ 640000140802369 = v := ⟨_, rfl⟩
  simp only [norm_i, hv21] at hd21
  simp (disch := omega) only [den_app, F22_1, Ent.nm_fn, hv1, hn1, hv2, hv3, hv4, hv5, hn5, hv6, hn6, hv7, hv8, hv9, hn9, hv10, hn10, hv11, hv12, hv13, hn13, hv14, hn14, hv15, hv16, hv17, hn17, hv18, hv19, hv20, hn20, hv21, ewA, preC, binI, dvI, shI, cmpB, env, List.map_cons, List.map_nil, List.getD_cons_succ, List.getD_cons_zero, List.getElem?_cons_zero, List.getElem?_cons_succ, bi, List.headD, List.tail, List.map, List.nil_append, List.cons_append, Int.toNat_zero, Int.toNat_one, Int.toNat_natCast, Nat.zero_add, Nat.reduceAdd, ewB, pdec, pndec, Int.not_lt, Int.not_le, if_true, if_false, ite_true, ite_false, true_and, and_true, false_and, and_false, true_implies, implies_true, false_implies, forall_const, not_true_eq_false, not_false_eq_true, ne_eq, reduceCtorEq, List.take_length, List.drop_zero, Int.reduceEq, Int.reduceLT, Int.reduceLE, Int.reduceToNat, Int.reduceAdd, Int.reduceSub, Int.reduceMul, Int.reduceNeg, Int.reduceBEq, Nat.reduceAdd, Nat.reduceLT, Nat.reduceEqDiff] at hd21
  have hd22 := hd 21 _ rfl
  obtain ⟨v22, hv22⟩ : ∃ v, ρ 640000140802370 = v := ⟨_, rfl⟩
  simp only [norm_i, hv22] at hd22
  simp (disch := omega) only [den_app, F22_2, Ent.nm_fn, hv1, hn1, hv2, hv3, hv4, hv5, hn5, hv6, hn6, hv7, hv8, hv9, hn9, hv10, hn10, hv11, hv12, hv13, hn13, hv14, hn14, hv15, hv16, hv17, hn17, hv18, hv19, hv20, hn20, hv21, hv22, ewA, preC, binI, dvI, shI, cmpB, env, List.map_cons, List.map_nil, List.getD_cons_succ, List.getD_cons_zero, List.getElem?_cons_zero, List.getElem?_cons_succ, bi, List.headD, List.tail, List.map, List.nil_append, List.cons_append, Int.toNat_zero, Int.toNat_one, Int.toNat_natCast, Nat.zero_add, Nat.reduceAdd, ewB, pdec, pndec, Int.not_lt, Int.not_le, if_true, if_false, ite_true, ite_false, true_and, and_true, false_and, and_false, true_implies, implies_true, false_implies, forall_const, not_true_eq_false, not_false_eq_true, ne_eq, reduceCtorEq, List.take_length, List.drop_zero, Int.reduceEq, Int.reduceLT, Int.reduceLE, Int.reduceToNat, Int.reduceAdd, Int.reduceSub, Int.reduceMul, Int.reduceNeg, Int.reduceBEq, Nat.reduceAdd, Nat.reduceLT, Nat.reduceEqDiff] at hd22
  have hd23 := hd 22 _ rfl
  have hn23 : K.norm (.i .i64) (ρ 640000140802371) = ρ 640000140802371 := by rw [hd23]; simp only [den_app]; exact K.norm_norm _ _
  obtain ⟨v23, hv23⟩ : ∃ v, ρ 640000140802371 = v := ⟨_, rfl⟩
  simp only [norm_i, hv23] at hd23 hn23
  simp (disch := omega) only [den_app, F22_3, Ent.nm_fn, hv1, hn1, hv2, hv3, hv4, hv5, hn5, hv6, hn6, hv7, hv8, hv9, hn9, hv10, hn10, hv11, hv12, hv13, hn13, hv14, hn14, hv15, hv16, hv17, hn17, hv18, hv19, hv20, hn20, hv21, hv22, hv23, hn23, ewA, preC, binI, dvI, shI, cmpB, env, List.map_cons, List.map_nil, List.getD_cons_succ, List.getD_cons_zero, List.getElem?_cons_zero, List.getElem?_cons_succ, bi, List.headD, List.tail, List.map, List.nil_append, List.cons_append, Int.toNat_zero, Int.toNat_one, Int.toNat_natCast, Nat.zero_add, Nat.reduceAdd, ewB, pdec, pndec, Int.not_lt, Int.not_le, if_true, if_false, ite_true, ite_false, true_and, and_true, false_and, and_false, true_implies, implies_true, false_implies, forall_const, not_true_eq_false, not_false_eq_true, ne_eq, reduceCtorEq, List.take_length, List.drop_zero, Int.reduceEq, Int.reduceLT, Int.reduceLE, Int.reduceToNat, Int.reduceAdd, Int.reduceSub, Int.reduceMul, Int.reduceNeg, Int.reduceBEq, Nat.reduceAdd, Nat.reduceLT, Nat.reduceEqDiff] at hd23
  have hd24 := hd 23 _ rfl
  have hn24 : K.norm (.i .i64) (ρ 640000140802880) = ρ 640000140802880 := by rw [hd24]; simp only [den_app]; exact K.norm_norm _ _
  obtain ⟨v24, hv24⟩ : ∃ v, ρ 640000140802880 = v := ⟨_, rfl⟩
  simp only [norm_i, hv24] at hd24 hn24
  simp (disch := omega) only [den_app, F22_0, Ent.nm_fn, hv1, hn1, hv2, hv3, hv4, hv5, hn5, hv6, hn6, hv7, hv8, hv9, hn9, hv10, hn10, hv11, hv12, hv13, hn13, hv14, hn14, hv15, hv16, hv17, hn17, hv18, hv19, hv20, hn20, hv21, hv22, hv23, hn23, hv24, hn24, ewA, preC, binI, dvI, shI, cmpB, env, List.map_cons, List.map_nil, List.getD_cons_succ, List.getD_cons_zero, List.getElem?_cons_zero, List.getElem?_cons_succ, bi, List.headD, List.tail, List.map, List.nil_append, List.cons_append, Int.toNat_zero, Int.toNat_one, Int.toNat_natCast, Nat.zero_add, Nat.reduceAdd, ewB, pdec, pndec, Int.not_lt, Int.not_le, if_true, if_false, ite_true, ite_false, true_and, and_true, false_and, and_false, true_implies, implies_true, false_implies, forall_const, not_true_eq_false, not_false_eq_true, ne_eq, reduceCtorEq, List.take_length, List.drop_zero, Int.reduceEq, Int.reduceLT, Int.reduceLE, Int.reduceToNat, Int.reduceAdd, Int.reduceSub, Int.reduceMul, Int.reduceNeg, Int.reduceBEq, Nat.reduceAdd, Nat.reduceLT, Nat.reduceEqDiff] at hd24
  have hd25 := hd 24 _ rfl
  obtain ⟨v25, hv25⟩ : ∃ v, ρ 640000140802881 = v := ⟨_, rfl⟩
  simp only [norm_i, hv25] at hd25
  simp (disch := omega) only [den_app, F22_1, Ent.nm_fn, hv1, hn1, hv2, hv3, hv4, hv5, hn5, hv6, hn6, hv7, hv8, hv9, hn9, hv10, hn10, hv11, hv12, hv13, hn13, hv14, hn14, hv15, hv16, hv17, hn17, hv18, hv19, hv20, hn20, hv21, hv22, hv23, hn23, hv24, hn24, hv25, ewA, preC, binI, dvI, shI, cmpB, env, List.map_cons, List.map_nil, List.getD_cons_succ, List.getD_cons_zero, List.getElem?_cons_zero, List.getElem?_cons_succ, bi, List.headD, List.tail, List.map, List.nil_append, List.cons_append, Int.toNat_zero, Int.toNat_one, Int.toNat_natCast, Nat.zero_add, Nat.reduceAdd, ewB, pdec, pndec, Int.not_lt, Int.not_le, if_true, if_false, ite_true, ite_false, true_and, and_true, false_and, and_false, true_implies, implies_true, false_implies, forall_const, not_true_eq_false, not_false_eq_true, ne_eq, reduceCtorEq, List.take_length, List.drop_zero, Int.reduceEq, Int.reduceLT, Int.reduceLE, Int.reduceToNat, Int.reduceAdd, Int.reduceSub, Int.reduceMul, Int.reduceNeg, Int.reduceBEq, Nat.reduceAdd, Nat.reduceLT, Nat.reduceEqDiff] at hd25
  have hd26 := hd 25 _ rfl
  obtain ⟨v26, hv26⟩ : ∃ v, ρ 640000140802882 = v := ⟨_, rfl⟩
  simp only [norm_i, hv26] at hd26
  simp (disch := omega) only [den_app, F22_2, Ent.nm_fn, hv1, hn1, hv2, hv3, hv4, hv5, hn5, hv6, hn6, hv7, hv8, hv9, hn9, hv10, hn10, hv11, hv12, hv13, hn13, hv14, hn14, hv15, hv16, hv17, hn17, hv18, hv19, hv20, hn20, hv21, hv22, hv23, hn23, hv24, hn24, hv25, hv26, ewA, preC, binI, dvI, shI, cmpB, env, List.map_cons, List.map_nil, List.getD_cons_succ, List.getD_cons_zero, List.getElem?_cons_zero, List.getElem?_cons_succ, bi, List.headD, List.tail, List.map, List.nil_append, List.cons_append, Int.toNat_zero, Int.toNat_one, Int.toNat_natCast, Nat.zero_add, Nat.reduceAdd, ewB, pdec, pndec, Int.not_lt, Int.not_le, if_true, if_false, ite_true, ite_false, true_and, and_true, false_and, and_false, true_implies, implies_true, false_implies, forall_const, not_true_eq_false, not_false_eq_true, ne_eq, reduceCtorEq, List.take_length, List.drop_zero, Int.reduceEq, Int.reduceLT, Int.reduceLE, Int.reduceToNat, Int.reduceAdd, Int.reduceSub, Int.reduceMul, Int.reduceNeg, Int.reduceBEq, Nat.reduceAdd, Nat.reduceLT, Nat.reduceEqDiff] at hd26
  have hd27 := hd 26 _ rfl
  have hn27 : K.norm (.i .i64) (ρ 640000140802883) = ρ 640000140802883 := by rw [hd27]; simp only [den_app]; exact K.norm_norm _ _
  obtain ⟨v27, hv27⟩ : ∃ v, ρ 640000140802883 = v := ⟨_, rfl⟩
  simp only [norm_i, hv27] at hd27 hn27
  simp (disch := omega) only [den_app, F22_3, Ent.nm_fn, hv1, hn1, hv2, hv3, hv4, hv5, hn5, hv6, hn6, hv7, hv8, hv9, hn9, hv10, hn10, hv11, hv12, hv13, hn13, hv14, hn14, hv15, hv16, hv17, hn17, hv18, hv19, hv20, hn20, hv21, hv22, hv23, hn23, hv24, hn24, hv25, hv26, hv27, hn27, ewA, preC, binI, dvI, shI, cmpB, env, List.map_cons, List.map_nil, List.getD_cons_succ, List.getD_cons_zero, List.getElem?_cons_zero, List.getElem?_cons_succ, bi, List.headD, List.tail, List.map, List.nil_append, List.cons_append, Int.toNat_zero, Int.toNat_one, Int.toNat_natCast, Nat.zero_add, Nat.reduceAdd, ewB, pdec, pndec, Int.not_lt, Int.not_le, if_true, if_false, ite_true, ite_false, true_and, and_true, false_and, and_false, true_implies, implies_true, false_implies, forall_const, not_true_eq_false, not_false_eq_true, ne_eq, reduceCtorEq, List.take_length, List.drop_zero, Int.reduceEq, Int.reduceLT, Int.reduceLE, Int.reduceToNat, Int.reduceAdd, Int.reduceSub, Int.reduceMul, Int.reduceNeg, Int.reduceBEq, Nat.reduceAdd, Nat.reduceLT, Nat.reduceEqDiff] at hd27
  have hd28 := hd 27 _ rfl
  obtain ⟨v28, hv28⟩ : ∃ v, ρ 640000089603392 = v := ⟨_, rfl⟩
  simp only [norm_i, hv28] at hd28
  simp (disch := omega) only [den_app, F14_0, Ent.nm_fn, hv1, hn1, hv2, hv3, hv4, hv5, hn5, hv6, hn6, hv7, hv8, hv9, hn9, hv10, hn10, hv11, hv12, hv13, hn13, hv14, hn14, hv15, hv16, hv17, hn17, hv18, hv19, hv20, hn20, hv21, hv22, hv23, hn23, hv24, hn24, hv25, hv26, hv27, hn27, hv28, ewA, preC, binI, dvI, shI, cmpB, env, List.map_cons, List.map_nil, List.getD_cons_succ, List.getD_cons_zero, List.getElem?_cons_zero, List.getElem?_cons_succ, bi, List.headD, List.tail, List.map, List.nil_append, List.cons_append, Int.toNat_zero, Int.toNat_one, Int.toNat_natCast, Nat.zero_add, Nat.reduceAdd, ewB, pdec, pndec, Int.not_lt, Int.not_le, if_true, if_false, ite_true, ite_false, true_and, and_true, false_and, and_false, true_implies, implies_true, false_implies, forall_const, not_true_eq_false, not_false_eq_true, ne_eq, reduceCtorEq, List.take_length, List.drop_zero, Int.reduceEq, Int.reduceLT, Int.reduceLE, Int.reduceToNat, Int.reduceAdd, Int.reduceSub, Int.reduceMul, Int.reduceNeg, Int.reduceBEq, Nat.reduceAdd, Nat.reduceLT, Nat.reduceEqDiff] at hd28
  have hd29 := hd 28 _ rfl
  have hn29 : K.norm .b (ρ 640000115203904) = ρ 640000115203904 := by rw [hd29]; simp only [den_app]; exact K.norm_norm _ _
  obtain ⟨v29, hv29⟩ : ∃ v, ρ 640000115203904 = v := ⟨_, rfl⟩
  simp only [norm_i, hv29] at hd29 hn29
  simp (disch := omega) only [den_app, F18_0, Ent.nm_fn, hv1, hn1, hv2, hv3, hv4, hv5, hn5, hv6, hn6, hv7, hv8, hv9, hn9, hv10, hn10, hv11, hv12, hv13, hn13, hv14, hn14, hv15, hv16, hv17, hn17, hv18, hv19, hv20, hn20, hv21, hv22, hv23, hn23, hv24, hn24, hv25, hv26, hv27, hn27, hv28, hv29, hn29, ewA, preC, binI, dvI, shI, cmpB, env, List.map_cons, List.map_nil, List.getD_cons_succ, List.getD_cons_zero, List.getElem?_cons_zero, List.getElem?_cons_succ, bi, List.headD, List.tail, List.map, List.nil_append, List.cons_append, Int.toNat_zero, Int.toNat_one, Int.toNat_natCast, Nat.zero_add, Nat.reduceAdd, ewB, pdec, pndec, Int.not_lt, Int.not_le, if_true, if_false, ite_true, ite_false, true_and, and_true, false_and, and_false, true_implies, implies_true, false_implies, forall_const, not_true_eq_false, not_false_eq_true, ne_eq, reduceCtorEq, List.take_length, List.drop_zero, Int.reduceEq, Int.reduceLT, Int.reduceLE, Int.reduceToNat, Int.reduceAdd, Int.reduceSub, Int.reduceMul, Int.reduceNeg, Int.reduceBEq, Nat.reduceAdd, Nat.reduceLT, Nat.reduceEqDiff] at hd29
  match xs, hf with
  | [t, c, o], hf =>
    obtain ⟨h0, h1, h2, _⟩ := hf
    simp only [norm_i, norm_x] at h0 h2
    have r0 : ρ 0 = t := hρ 0 (by decide)
    have r1 : ρ 1 = c := hρ 1 (by decide)
    have r2 : ρ 2 = o := hρ 2 (by decide)
    have hp1 := hp.1
    have hp2 := hp.2
    obtain ⟨q1, q2, q3⟩ := madM_ok t (dc c)
    have ht := q1.tim
    rw [r0, r1, h0] at hd1 hd2 hd3
    have e1 : v1 = (madM t (dc c)).1 := hd1.trans (i64w (by show _ ≤ (madM t (dc c)).1; omega) (by show (madM t (dc c)).1 ≤ _; omega))
    have e2 : v2 = (madM t (dc c)).2.1 := hd2
    have e3 : v3 = (madM t (dc c)).2.2 := hd3
    rw [← e1, ← e2, ← e3] at q1
    rw [← e1] at q2 ht
    rw [← e1, ← e2] at q3
    have hlen := q1.len
    have w1 : IntKind.i64.wrap v1 = v1 := i64w (by omega) (by omega)
    have w9 : IntKind.i64.wrap (v1 + 1) = v1 + 1 := i64w (by omega) (by omega)
    have wl : IntKind.i64.wrap ((dc v2).length : Int) = ((dc v2).length : Int) := i64w (by omega) (by omega)
    have z4 : v4 = v2 := hd4
    have z5 : v5 = v1 := hd5.trans w1
    have z6 : v6 = v1 := by rw [hd6]; show IntKind.i64.wrap v5 = v1; rw [z5, w1]
    have z7 : v7 = cd [] := hd7
    have z8 : v8 = cd [] := hd8
    have z9 : v9 = v1 := hd9.trans w1
    simp only [z4, z6, z9, w9, wl, r2, h2] at hd10 hd11 hd12 hd13 hd14 hd15 hd16 hd17 hd18 hd19
    have hq0 : TQ v1 (v1, v7, v8) := ⟨rfl, by show QI v1 (dc v7) (dc v8); rw [z7, z8]; have := QI.nil (t := v1) (by omega) (by omega); rwa [dc_cd] at this ⊢⟩
    obtain ⟨a1, b1, c1, d1, f1⟩ := any_ok (o := o) q1 (fun r hr => (q3 r hr).1) hq0 (by show dc v7 = []; rw [z7]; exact dc_cd [])
    have ha : armB v1 100 (v1 + 1) = true := armB_ok (by decide) (by decide) (by omega) (by omega)
    have z10 : v10 = v1 := hd10.trans w1
    have z13 : v13 = 0 := by rw [hd13]; show IntKind.i64.wrap (bif armB v1 100 (v1 + 1) then (0 : Int) else 2) = _; rw [ha]; rfl
    have eA : armQ (v1, v7, v8) 100 (v1 + 1) = (v10, v11, v12) := by rw [z10, hd11, hd12]; rfl
    rw [eA] at a1 b1 c1 d1 f1
    have eB : runA o 0 (dc v2) (v10, v11, v12) = (v14, v15, v16) := by
      have k0 : v14 = (runA o 0 (dc v2) (v10, v11, v12)).1 := by rw [hd14]; show IntKind.i64.wrap (runA o 0 (dc v2) (v10, v11, v12)).1 = _; rw [b1.a, w1]
      have k1 : v15 = (runA o 0 (dc v2) (v10, v11, v12)).2.1 := hd15
      have k2 : v16 = (runA o 0 (dc v2) (v10, v11, v12)).2.2 := hd16
      rw [k0, k1, k2]
    rw [eB] at b1 c1 d1 f1
    have eC : runB (dc v2).reverse (v14, v15, v16) = (v17, v18, v19) := by
      have k0 : v17 = (runB (dc v2).reverse (v14, v15, v16)).1 := by rw [hd17]; show IntKind.i64.wrap (runB (dc v2).reverse (v14, v15, v16)).1 = _; rw [c1.a, w1]
      have k1 : v18 = (runB (dc v2).reverse (v14, v15, v16)).2.1 := hd18
      have k2 : v19 = (runB (dc v2).reverse (v14, v15, v16)).2.2 := hd19
      rw [k0, k1, k2]
    rw [eC] at c1 d1 f1
    have z14 : v14 = v1 := b1.a
    have z17 : v17 = v1 := c1.a
    replace b1 : QI v1 (dc v15) (dc v16) := b1.q
    replace a1 : QI v1 (dc v11) (dc v12) := a1.q
    replace c1 : QI v1 (dc v18) (dc v19) := c1.q
    replace d1 : delT 100 (dc v18) = dc v2 := d1
    replace f1 : hasM (dc v19) 100 = true := f1
    have s0 : QS v17 v18 v19 v1 (dc v18) (dc v19) := ⟨z17, rfl, rfl, c1⟩
    obtain ⟨s1, z23⟩ := s0.can (T' := dc v2) (M' := delR [100] (dc v19)) (x := 0) (by rw [f1, d1]; rfl) (by rw [f1]; rfl) (by rw [f1]; rfl) hd20 hd21 hd22 hd23
    have hn : hasM (delR [100] (dc v19)) 100 = false := by
      rw [← Bool.not_eq_true]
      intro h
      obtain ⟨d, hd⟩ := (s1.q.has 100).1 h
      have : (100 : Int) < 16 := (q3 _ hd).1
      omega
    obtain ⟨s2, z27⟩ := s1.can (T' := dc v2) (M' := delR [100] (dc v19)) (x := 6) (by rw [hn]; rfl) (by rw [hn]; rfl) (by rw [hn]; rfl) hd24 hd25 hd26 hd27
    simp only [z23, if_true, ewA, preC, binI, dvI, shI, cmpB, env, List.map_cons, List.map_nil, List.getD_cons_succ, List.getD_cons_zero, List.getElem?_cons_zero, List.getElem?_cons_succ, bi, List.headD, List.tail, List.map, List.nil_append, List.cons_append, Int.toNat_zero, Int.toNat_one, Int.toNat_natCast, Nat.zero_add, Nat.reduceAdd, ewB, pdec, pndec, Int.not_lt, Int.not_le, if_true, if_false, ite_true, ite_false, true_and, and_true, false_and, and_false, true_implies, implies_true, false_implies, forall_const, not_true_eq_false, not_false_eq_true, ne_eq, reduceCtorEq, List.take_length, List.drop_zero, Int.reduceEq, Int.reduceLT, Int.reduceLE, Int.reduceToNat, Int.reduceAdd, Int.reduceSub, Int.reduceMul, Int.reduceNeg, Int.reduceBEq, Nat.reduceAdd, Nat.reduceLT, Nat.reduceEqDiff] at hd28 hd29
    have z28 : v28 = v25 := hd28
    have z29 : v29 = 1 := by rw [hd29]; show K.b.norm (b2i (dc v28 == dc v4)) = 1; rw [z28, z4, s2.b]; simp; rfl
    refine ⟨?_, trivial⟩
    rw [z4] at hd4
    simp (disch := omega) only [ob_4, ewA, preC, binI, dvI, shI, cmpB, env, List.map_cons, List.map_nil, List.getD_cons_succ, List.getD_cons_zero, List.getElem?_cons_zero, List.getElem?_cons_succ, bi, List.headD, List.tail, List.map, List.nil_append, List.cons_append, Int.toNat_zero, Int.toNat_one, Int.toNat_natCast, Nat.zero_add, Nat.reduceAdd, ewB, pdec, pndec, Int.not_lt, Int.not_le, if_true, if_false, ite_true, ite_false, true_and, and_true, false_and, and_false, true_implies, implies_true, false_implies, forall_const, not_true_eq_false, not_false_eq_true, ne_eq, reduceCtorEq, List.take_length, List.drop_zero, Int.reduceEq, Int.reduceLT, Int.reduceLE, Int.reduceToNat, Int.reduceAdd, Int.reduceSub, Int.reduceMul, Int.reduceNeg, Int.reduceBEq, Nat.reduceAdd, Nat.reduceLT, Nat.reduceEqDiff, P12, F13_0, F13_1, F13_2, P13, F14_0, P14, F17_0, P17, F18_0, P18, F20_0, F20_1, F20_2, P20, F21_0, F21_1, F21_2, F21_3, P21, F22_0, F22_1, F22_2, F22_3, P22, F9004_0, F9004_1, F9004_2, P9004, F9104_0, F9104_1, F9104_2, P9104, hv1, hn1, hv2, hv3, hv4, hv5, hn5, hv6, hn6, hv7, hv8, hv9, hn9, hv10, hn10, hv11, hv12, hv13, hn13, hv14, hn14, hv15, hv16, hv17, hn17, hv18, hv19, hv20, hn20, hv21, hv22, hv23, hn23, hv24, hn24, hv25, hv26, hv27, hn27, hv28, hv29, hn29, r0, r1, r2, h0, h2, z4, z5, z6, z9, w1, w9, wl, z10, z13, z14, z17, z23, z27, z29]
    simp only [z5, z6] at hd5 hd6 hd7 hd8
    rw [z9] at hd9
    simp only [z10, z13, z14, z17, z23, z27, z29, z4] at hd10 hd11 hd12 hd13 hd14 hd15 hd16 hd17 hd18 hd19 hd20 hd21 hd22 hd23 hd24 hd25 hd26 hd27 hd28 hd29
    have yA : e12.pre [] := trivial
    have yB : e13.pre [t, c] := hp
    have yC : e14.pre [v1, v2, v3] := q1
    have yD : e17.pre [v1, v2, v3] := trivial
    have yE : e20.pre [v1] := ⟨by show 0 ≤ v1; omega, by show v1 ≤ 1099511627776; omega⟩
    have yF : e21.pre [v1, v7, v8, 100, v1 + 1] := hq0.q
    have yG : le4a.nm.ent.pre [o, v1, v2, v3, v1, v11, v12, v2, ((dc v2).length : Int), 0] := ⟨q1, a1, rfl, rfl, rfl, by show (0 : Int) ≤ 0; omega, by show (0 : Int) ≤ ((dc v2).length : Int); omega⟩
    have yH : le4b.nm.ent.pre [v2, v1, v15, v16, ((dc v2).length : Int), 0] := ⟨b1, ⟨_, q1⟩, rfl, by show (0 : Int) ≤ 0; omega, by show (0 : Int) ≤ ((dc v2).length : Int); omega⟩
    have yI : e22.pre [v1, v18, v19, 100] := c1
    have yJ : e22.pre [v20, v21, v22, 100] := s1.qi
    have yK : e14.pre [v24, v25, v26] := s2.qi
    have yL : e18.pre [v28, v2] := by
      show ((dc v28).length : Int) < cap8 ∧ ((dc v2).length : Int) < cap8 ∧ rowsOK tmK (dc v28) ∧ rowsOK tmK (dc v2)
      rw [z28, s2.b]; unfold cap8
      exact ⟨by omega, by omega, q1.row, q1.row⟩
    repeat' (first | (with_reducible apply And.intro) | (with_reducible intro _))
    all_goals with_reducible assumption

end
end Go.Proofs.Ytmolkkphnehgcaa.Ew
