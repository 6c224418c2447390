/- Layer 17: QueueDue. -/
import Derived.Test.YtmolkkphnehgcaaQn
set_option linter.unusedVariables false
set_option linter.unusedSimpArgs false
namespace Go.Proofs.Ytmolkkphnehgcaa.Ew
open Go Go.RowKit
noncomputable section
--P Try.prog G0

def cntE (t : Int) (l : RL) : Nat := (l.takeWhile fun r => dlR r == t).length
def pre3b (xs : List Int) : Prop := rowsOK tmK (dc (env xs 3)) ∧ ((dc (env xs 3)).length : Int) < cap8 ∧ 0 ≤ env xs 4 ∧ env xs 4 ≤ ((dc (env xs 3)).length : Int)
def fn3b (_ : Nat) (xs : List Int) : Int := env xs 4 + (cntE (env xs 0) ((dc (env xs 3)).drop (env xs 4).toNat) : Int)
def mu3b (xs : List Int) : Nat := (((dc (env xs 3)).length : Int) - env xs 4).toNat
def le3b : LEnt := ⟨⟨9103, 999999, [qo, ls34, i64], [], [0, 1, 2, 3], .tup [i64], fn3b, pre3b⟩, [7, 9, 12], [12], (List.range 16).map (· + 34), [.ex 2], 89, [9]⟩
def p3a : List Bool := [true,true,true,true,true,false,true,false]
def p3b : List Bool := p3a ++ [false,true,true,false,false,true,true,false,false]
abbrev Q4 := Int × Int × Int × Int
def stepD (q : Q4) : Q4 := (fn16 0 [q.1, q.2.1, q.2.2.1], fn16 1 [q.1, q.2.1, q.2.2.1], fn16 2 [q.1, q.2.1, q.2.2.1], cd ((dc q.2.2.2).drop (cntE (fn16 0 [q.1, q.2.1, q.2.2.1]) (dc q.2.2.2))))
def iterD : Nat → Q4 → Q4
  | 0, q => q
  | n + 1, q => iterD n (stepD q)
def get4 : Nat → Q4 → Int
  | 0, q => q.1
  | 1, q => q.2.1
  | 2, q => q.2.2.1
  | _, q => q.2.2.2
def fn3a (j : Nat) (xs : List Int) : Int := get4 j (iterD (env xs 4 - env xs 5).toNat (env xs 0, env xs 1, env xs 2, env xs 3))
def pre3a (xs : List Int) : Prop := QIx xs ∧ dc (env xs 3) = dc (env xs 1) ∧ 0 ≤ env xs 5 ∧ env xs 5 ≤ env xs 4 ∧ env xs 0 + (env xs 4 - env xs 5) ≤ 1099511627776
def mu3a (xs : List Int) : Nat := (env xs 4 - env xs 5).toNat
def le3a : LEnt := ⟨⟨9003, 999999, [.lt .b 0, qo, ls34, i64, i64], [qob], [3], .tup [.lt .b 0, ls34], fn3a, pre3a⟩, [6, 7, 9, 26, 27], [6, 9], [10, 11, 12] ++ (List.range 58).map (· + 27), [.ex 0], 89, [9]⟩
def pre3 (xs : List Int) : Prop := rowsOK actK (dc (env xs 1)) ∧ ((dc (env xs 1)).length : Int) ≤ 9223372036854775807
def e3 : Ent := ⟨3, 3, [i64, acts, i64], [], [0], .lt .b 1, fun _ _ => 0, pre3⟩
def p3c : List Bool := p3a ++ [false,true,true,false,false,true,true,true,false]
/-- What is told of one tick: nothing is wrong. -/
def pre3c (xs : List Int) : Prop := env xs 5 = 0 ∧ rowsOK tmK (dc (env xs 3)) ∧ ((dc (env xs 3)).length : Int) < cap8 ∧ 0 ≤ env xs 6 ∧ env xs 6 ≤ ((dc (env xs 3)).length : Int) ∧ dc (env xs 4) = (dc (env xs 3)).take (env xs 6).toNat ∧ (∀ r, (dc (env xs 3)).drop (env xs 6).toNat = r :: (dc (env xs 3)).drop (env xs 6 + 1).toNat → env xs 0 ≤ dlR r)
def le3c : LEnt := ⟨⟨9113, 999999, [qo, ls34, ls34, i64, i64], [], [0, 1, 2, 3, 4], .tup [], fun _ _ => 0, pre3c⟩, [7, 9, 10, 11, 12], [], (List.range 26).map (· + 50), [.nrm], 89, [9, 10]⟩
def c3c : Ctx := ⟨[e17, e18], []⟩
def c3b : Ctx := ⟨[e17], []⟩
def c3a : Ctx := ⟨[e16, e17, e18, e19], [(3, p3b, le3b), (3, p3c, le3c)]⟩
def cQ3 : Ctx := ⟨[e12, e13, e14, e15, e18], [(3, p3a, le3a)]⟩

def ob_L3b : E := (.and (.and (.or (.not (.cmp .lss (.var (.i .i64) 4) (.app (.i .i64) 0 0 [(.var .x 3)]))) (.and (.cmp .geq (.var (.i .i64) 4) (.lit (.i .i64) 0)) (.cmp .lss (.var (.i .i64) 4) (.app (.i .i64) 0 0 [(.var .x 3)])))) (.and (.or (.not (.cmp .lss (.var (.i .i64) 4) (.app (.i .i64) 0 0 [(.var .x 3)]))) (.and (.cmp .geq (.var (.i .i64) 4) (.lit (.i .i64) 0)) (.cmp .lss (.var (.i .i64) 4) (.app (.i .i64) 0 0 [(.var .x 3)])))) (.or (.not (.cmp .lss (.var (.i .i64) 4) (.app (.i .i64) 0 0 [(.var .x 3)]))) (.app .b 17 1000000 [(.var (.i .i64) 0), (.var .x 1), (.var .x 2)])))) (.or (.not (.and (.cmp .lss (.var (.i .i64) 4) (.app (.i .i64) 0 0 [(.var .x 3)])) (.cmp .eql (.app (.i .i64) 0 1 [(.var .x 3), (.var (.i .i64) 4), (.lit .x 1)]) (.app (.i .i64) 17 0 [(.var (.i .i64) 0), (.var .x 1), (.var .x 2)])))) (.app .b 9103 1000000 [(.var (.i .i64) 0), (.var .x 1), (.var .x 2), (.var .x 3), (.bin .add .i64 (.var (.i .i64) 4) (.lit (.i .i64) 1))])))
def es_L3b : List E := [(.ite (.not (.and (.cmp .lss (.var (.i .i64) 4) (.app (.i .i64) 0 0 [(.var .x 3)])) (.cmp .eql (.app (.i .i64) 0 1 [(.var .x 3), (.var (.i .i64) 4), (.lit .x 1)]) (.app (.i .i64) 17 0 [(.var (.i .i64) 0), (.var .x 1), (.var .x 2)])))) (.var (.i .i64) 4) (.app (.i .i64) 9103 0 [(.var (.i .i64) 0), (.var .x 1), (.var .x 2), (.var .x 3), (.bin .add .i64 (.var (.i .i64) 4) (.lit (.i .i64) 1))]))]
theorem ev_L3b : evL Try.prog G0 (tabOf c3b.fs) (evFn Try.prog G0 (tabOf c3b.fs) (ltOf c3b.ls) 40 10) 40 (subL c3b.ls 3 p3b) le3b (bodyAt Try.prog 3 p3b) = some (ob_L3b, es_L3b) := by kernel_rfl

def ob_C3c : E := (.and (.and (.or (.cmp .neq (.var (.i .i64) 5) (.lit (.i .i64) 0)) (.and (.cmp .leq (.lit (.i .i64) 0) (.var (.i .i64) 6)) (.cmp .leq (.var (.i .i64) 6) (.app (.i .i64) 0 0 [(.var .x 3)])))) (.and (.or (.cmp .neq (.var (.i .i64) 5) (.lit (.i .i64) 0)) (.and (.not (.cmp .neq (.var (.i .i64) 5) (.lit (.i .i64) 0))) (.app .b 18 1000000 [(.var .x 4), (.app .x 0 5 [(.var .x 3), (.lit (.i .i64) 0), (.var (.i .i64) 6)])]))) (.and (.or (.not (.and (.not (.or (.cmp .neq (.var (.i .i64) 5) (.lit (.i .i64) 0)) (.not (.app .b 18 0 [(.var .x 4), (.app .x 0 5 [(.var .x 3), (.lit (.i .i64) 0), (.var (.i .i64) 6)])])))) (.cmp .gtr (.app (.i .i64) 0 0 [(.var .x 3)]) (.var (.i .i64) 6)))) (.and (.cmp .geq (.var (.i .i64) 6) (.lit (.i .i64) 0)) (.cmp .lss (.var (.i .i64) 6) (.app (.i .i64) 0 0 [(.var .x 3)])))) (.and (.or (.not (.and (.not (.or (.cmp .neq (.var (.i .i64) 5) (.lit (.i .i64) 0)) (.not (.app .b 18 0 [(.var .x 4), (.app .x 0 5 [(.var .x 3), (.lit (.i .i64) 0), (.var (.i .i64) 6)])])))) (.cmp .gtr (.app (.i .i64) 0 0 [(.var .x 3)]) (.var (.i .i64) 6)))) (.and (.cmp .geq (.var (.i .i64) 6) (.lit (.i .i64) 0)) (.cmp .lss (.var (.i .i64) 6) (.app (.i .i64) 0 0 [(.var .x 3)])))) (.or (.not (.and (.not (.or (.cmp .neq (.var (.i .i64) 5) (.lit (.i .i64) 0)) (.not (.app .b 18 0 [(.var .x 4), (.app .x 0 5 [(.var .x 3), (.lit (.i .i64) 0), (.var (.i .i64) 6)])])))) (.cmp .gtr (.app (.i .i64) 0 0 [(.var .x 3)]) (.var (.i .i64) 6)))) (.app .b 17 1000000 [(.var (.i .i64) 0), (.var .x 1), (.var .x 2)])))))) (.not (.or (.or (.cmp .neq (.var (.i .i64) 5) (.lit (.i .i64) 0)) (.not (.app .b 18 0 [(.var .x 4), (.app .x 0 5 [(.var .x 3), (.lit (.i .i64) 0), (.var (.i .i64) 6)])]))) (.and (.cmp .gtr (.app (.i .i64) 0 0 [(.var .x 3)]) (.var (.i .i64) 6)) (.cmp .lss (.app (.i .i64) 0 1 [(.var .x 3), (.var (.i .i64) 6), (.lit .x 1)]) (.app (.i .i64) 17 0 [(.var (.i .i64) 0), (.var .x 1), (.var .x 2)]))))))
def es_C3c : List E := []
theorem ev_C3c : evP Try.prog G0 (tabOf c3c.fs) (evFn Try.prog G0 (tabOf c3c.fs) (ltOf c3c.ls) 40 10) 40 (subP c3c.ls 3 p3c) le3c (codeAtF Try.prog 3 p3c) = some (ob_C3c, es_C3c) := by kernel_rfl

def ob_L3a : E := (.and (.and (.or (.not (.cmp .lss (.var (.i .i64) 5) (.var (.i .i64) 4))) (.and (.app .b 16 1000000 [(.var (.i .i64) 0), (.var .x 1), (.var .x 2)]) (.and (.app .b 9103 1000000 [(.app (.i .i64) 16 0 [(.var (.i .i64) 0), (.var .x 1), (.var .x 2)]), (.app .x 16 1 [(.var (.i .i64) 0), (.var .x 1), (.var .x 2)]), (.app .x 16 2 [(.var (.i .i64) 0), (.var .x 1), (.var .x 2)]), (.var .x 3), (.lit (.i .i64) 0)]) (.and (.app .b 9113 1000000 [(.app (.i .i64) 16 0 [(.var (.i .i64) 0), (.var .x 1), (.var .x 2)]), (.app .x 16 1 [(.var (.i .i64) 0), (.var .x 1), (.var .x 2)]), (.app .x 16 2 [(.var (.i .i64) 0), (.var .x 1), (.var .x 2)]), (.var .x 3), (.app .x 16 3 [(.var (.i .i64) 0), (.var .x 1), (.var .x 2)]), (.app (.i .i64) 16 4 [(.var (.i .i64) 0), (.var .x 1), (.var .x 2)]), (.app (.i .i64) 9103 0 [(.app (.i .i64) 16 0 [(.var (.i .i64) 0), (.var .x 1), (.var .x 2)]), (.app .x 16 1 [(.var (.i .i64) 0), (.var .x 1), (.var .x 2)]), (.app .x 16 2 [(.var (.i .i64) 0), (.var .x 1), (.var .x 2)]), (.var .x 3), (.lit (.i .i64) 0)])]) (.and (.and (.cmp .geq (.app (.i .i64) 9103 0 [(.app (.i .i64) 16 0 [(.var (.i .i64) 0), (.var .x 1), (.var .x 2)]), (.app .x 16 1 [(.var (.i .i64) 0), (.var .x 1), (.var .x 2)]), (.app .x 16 2 [(.var (.i .i64) 0), (.var .x 1), (.var .x 2)]), (.var .x 3), (.lit (.i .i64) 0)]) (.lit (.i .i64) 0)) (.cmp .leq (.app (.i .i64) 9103 0 [(.app (.i .i64) 16 0 [(.var (.i .i64) 0), (.var .x 1), (.var .x 2)]), (.app .x 16 1 [(.var (.i .i64) 0), (.var .x 1), (.var .x 2)]), (.app .x 16 2 [(.var (.i .i64) 0), (.var .x 1), (.var .x 2)]), (.var .x 3), (.lit (.i .i64) 0)]) (.app (.i .i64) 0 0 [(.var .x 3)]))) (.app .b 19 1000000 [(.app (.i .i64) 16 0 [(.var (.i .i64) 0), (.var .x 1), (.var .x 2)]), (.app .x 16 1 [(.var (.i .i64) 0), (.var .x 1), (.var .x 2)]), (.app .x 16 2 [(.var (.i .i64) 0), (.var .x 1), (.var .x 2)])])))))) (.or (.not (.and (.cmp .lss (.var (.i .i64) 5) (.var (.i .i64) 4)) (.not (.cmp .neq (.app (.i .i64) 19 0 [(.app (.i .i64) 16 0 [(.var (.i .i64) 0), (.var .x 1), (.var .x 2)]), (.app .x 16 1 [(.var (.i .i64) 0), (.var .x 1), (.var .x 2)]), (.app .x 16 2 [(.var (.i .i64) 0), (.var .x 1), (.var .x 2)])]) (.app (.i .i64) 0 0 [(.app .x 0 5 [(.var .x 3), (.app (.i .i64) 9103 0 [(.app (.i .i64) 16 0 [(.var (.i .i64) 0), (.var .x 1), (.var .x 2)]), (.app .x 16 1 [(.var (.i .i64) 0), (.var .x 1), (.var .x 2)]), (.app .x 16 2 [(.var (.i .i64) 0), (.var .x 1), (.var .x 2)]), (.var .x 3), (.lit (.i .i64) 0)]), (.app (.i .i64) 0 0 [(.var .x 3)])])]))))) (.app .b 9003 1000000 [(.app (.i .i64) 16 0 [(.var (.i .i64) 0), (.var .x 1), (.var .x 2)]), (.app .x 16 1 [(.var (.i .i64) 0), (.var .x 1), (.var .x 2)]), (.app .x 16 2 [(.var (.i .i64) 0), (.var .x 1), (.var .x 2)]), (.app .x 0 5 [(.var .x 3), (.app (.i .i64) 9103 0 [(.app (.i .i64) 16 0 [(.var (.i .i64) 0), (.var .x 1), (.var .x 2)]), (.app .x 16 1 [(.var (.i .i64) 0), (.var .x 1), (.var .x 2)]), (.app .x 16 2 [(.var (.i .i64) 0), (.var .x 1), (.var .x 2)]), (.var .x 3), (.lit (.i .i64) 0)]), (.app (.i .i64) 0 0 [(.var .x 3)])]), (.var (.i .i64) 4), (.bin .add .i64 (.var (.i .i64) 5) (.lit (.i .i64) 1))]))) (.and (.or (.not (.or (.not (.cmp .lss (.var (.i .i64) 5) (.var (.i .i64) 4))) (.and (.cmp .lss (.var (.i .i64) 5) (.var (.i .i64) 4)) (.not (.cmp .neq (.app (.i .i64) 19 0 [(.app (.i .i64) 16 0 [(.var (.i .i64) 0), (.var .x 1), (.var .x 2)]), (.app .x 16 1 [(.var (.i .i64) 0), (.var .x 1), (.var .x 2)]), (.app .x 16 2 [(.var (.i .i64) 0), (.var .x 1), (.var .x 2)])]) (.app (.i .i64) 0 0 [(.app .x 0 5 [(.var .x 3), (.app (.i .i64) 9103 0 [(.app (.i .i64) 16 0 [(.var (.i .i64) 0), (.var .x 1), (.var .x 2)]), (.app .x 16 1 [(.var (.i .i64) 0), (.var .x 1), (.var .x 2)]), (.app .x 16 2 [(.var (.i .i64) 0), (.var .x 1), (.var .x 2)]), (.var .x 3), (.lit (.i .i64) 0)]), (.app (.i .i64) 0 0 [(.var .x 3)])])])))))) (.and (.ite (.not (.cmp .lss (.var (.i .i64) 5) (.var (.i .i64) 4))) (.not (.cmp .lss (.var (.i .i64) 5) (.var (.i .i64) 4))) (.cmp .lss (.var (.i .i64) 5) (.var (.i .i64) 4))) (.and (.ite (.not (.cmp .lss (.var (.i .i64) 5) (.var (.i .i64) 4))) (.not (.cmp .lss (.var (.i .i64) 5) (.var (.i .i64) 4))) (.cmp .lss (.var (.i .i64) 5) (.var (.i .i64) 4))) (.or (.not (.cmp .lss (.var (.i .i64) 5) (.var (.i .i64) 4))) (.cmp .lss (.var (.i .i64) 5) (.var (.i .i64) 4)))))) (.not (.and (.cmp .lss (.var (.i .i64) 5) (.var (.i .i64) 4)) (.cmp .neq (.app (.i .i64) 19 0 [(.app (.i .i64) 16 0 [(.var (.i .i64) 0), (.var .x 1), (.var .x 2)]), (.app .x 16 1 [(.var (.i .i64) 0), (.var .x 1), (.var .x 2)]), (.app .x 16 2 [(.var (.i .i64) 0), (.var .x 1), (.var .x 2)])]) (.app (.i .i64) 0 0 [(.app .x 0 5 [(.var .x 3), (.app (.i .i64) 9103 0 [(.app (.i .i64) 16 0 [(.var (.i .i64) 0), (.var .x 1), (.var .x 2)]), (.app .x 16 1 [(.var (.i .i64) 0), (.var .x 1), (.var .x 2)]), (.app .x 16 2 [(.var (.i .i64) 0), (.var .x 1), (.var .x 2)]), (.var .x 3), (.lit (.i .i64) 0)]), (.app (.i .i64) 0 0 [(.var .x 3)])])]))))))
def es_L3a : List E := [(.ite (.not (.cmp .lss (.var (.i .i64) 5) (.var (.i .i64) 4))) (.var (.i .i64) 0) (.app (.i .i64) 9003 0 [(.app (.i .i64) 16 0 [(.var (.i .i64) 0), (.var .x 1), (.var .x 2)]), (.app .x 16 1 [(.var (.i .i64) 0), (.var .x 1), (.var .x 2)]), (.app .x 16 2 [(.var (.i .i64) 0), (.var .x 1), (.var .x 2)]), (.app .x 0 5 [(.var .x 3), (.app (.i .i64) 9103 0 [(.app (.i .i64) 16 0 [(.var (.i .i64) 0), (.var .x 1), (.var .x 2)]), (.app .x 16 1 [(.var (.i .i64) 0), (.var .x 1), (.var .x 2)]), (.app .x 16 2 [(.var (.i .i64) 0), (.var .x 1), (.var .x 2)]), (.var .x 3), (.lit (.i .i64) 0)]), (.app (.i .i64) 0 0 [(.var .x 3)])]), (.var (.i .i64) 4), (.bin .add .i64 (.var (.i .i64) 5) (.lit (.i .i64) 1))])), (.ite (.not (.cmp .lss (.var (.i .i64) 5) (.var (.i .i64) 4))) (.var .x 1) (.app .x 9003 1 [(.app (.i .i64) 16 0 [(.var (.i .i64) 0), (.var .x 1), (.var .x 2)]), (.app .x 16 1 [(.var (.i .i64) 0), (.var .x 1), (.var .x 2)]), (.app .x 16 2 [(.var (.i .i64) 0), (.var .x 1), (.var .x 2)]), (.app .x 0 5 [(.var .x 3), (.app (.i .i64) 9103 0 [(.app (.i .i64) 16 0 [(.var (.i .i64) 0), (.var .x 1), (.var .x 2)]), (.app .x 16 1 [(.var (.i .i64) 0), (.var .x 1), (.var .x 2)]), (.app .x 16 2 [(.var (.i .i64) 0), (.var .x 1), (.var .x 2)]), (.var .x 3), (.lit (.i .i64) 0)]), (.app (.i .i64) 0 0 [(.var .x 3)])]), (.var (.i .i64) 4), (.bin .add .i64 (.var (.i .i64) 5) (.lit (.i .i64) 1))])), (.ite (.not (.cmp .lss (.var (.i .i64) 5) (.var (.i .i64) 4))) (.var .x 2) (.app .x 9003 2 [(.app (.i .i64) 16 0 [(.var (.i .i64) 0), (.var .x 1), (.var .x 2)]), (.app .x 16 1 [(.var (.i .i64) 0), (.var .x 1), (.var .x 2)]), (.app .x 16 2 [(.var (.i .i64) 0), (.var .x 1), (.var .x 2)]), (.app .x 0 5 [(.var .x 3), (.app (.i .i64) 9103 0 [(.app (.i .i64) 16 0 [(.var (.i .i64) 0), (.var .x 1), (.var .x 2)]), (.app .x 16 1 [(.var (.i .i64) 0), (.var .x 1), (.var .x 2)]), (.app .x 16 2 [(.var (.i .i64) 0), (.var .x 1), (.var .x 2)]), (.var .x 3), (.lit (.i .i64) 0)]), (.app (.i .i64) 0 0 [(.var .x 3)])]), (.var (.i .i64) 4), (.bin .add .i64 (.var (.i .i64) 5) (.lit (.i .i64) 1))])), (.ite (.not (.cmp .lss (.var (.i .i64) 5) (.var (.i .i64) 4))) (.var .x 3) (.app .x 9003 3 [(.app (.i .i64) 16 0 [(.var (.i .i64) 0), (.var .x 1), (.var .x 2)]), (.app .x 16 1 [(.var (.i .i64) 0), (.var .x 1), (.var .x 2)]), (.app .x 16 2 [(.var (.i .i64) 0), (.var .x 1), (.var .x 2)]), (.app .x 0 5 [(.var .x 3), (.app (.i .i64) 9103 0 [(.app (.i .i64) 16 0 [(.var (.i .i64) 0), (.var .x 1), (.var .x 2)]), (.app .x 16 1 [(.var (.i .i64) 0), (.var .x 1), (.var .x 2)]), (.app .x 16 2 [(.var (.i .i64) 0), (.var .x 1), (.var .x 2)]), (.var .x 3), (.lit (.i .i64) 0)]), (.app (.i .i64) 0 0 [(.var .x 3)])]), (.var (.i .i64) 4), (.bin .add .i64 (.var (.i .i64) 5) (.lit (.i .i64) 1))]))]
theorem ev_L3a : evL Try.prog G0 (tabOf c3a.fs) (evFn Try.prog G0 (tabOf c3a.fs) (ltOf c3a.ls) 40 10) 40 (subL c3a.ls 3 p3a) le3a (bodyAt Try.prog 3 p3a) = some (ob_L3a, es_L3a) := by kernel_rfl

def ob_3 : E := (.and (.and (.app .b 12 1000000 []) (.and (.app .b 13 1000000 [(.var (.i .i64) 0), (.var .x 1)]) (.and (.app .b 14 1000000 [(.app (.i .i64) 13 0 [(.var (.i .i64) 0), (.var .x 1)]), (.app .x 13 1 [(.var (.i .i64) 0), (.var .x 1)]), (.app .x 13 2 [(.var (.i .i64) 0), (.var .x 1)])]) (.and (.and (.app .b 15 1000000 [(.var (.i .i64) 2), (.lit (.i .i64) 700)]) (.app .b 9003 1000000 [(.app (.i .i64) 13 0 [(.var (.i .i64) 0), (.var .x 1)]), (.app .x 13 1 [(.var (.i .i64) 0), (.var .x 1)]), (.app .x 13 2 [(.var (.i .i64) 0), (.var .x 1)]), (.app .x 14 0 [(.app (.i .i64) 13 0 [(.var (.i .i64) 0), (.var .x 1)]), (.app .x 13 1 [(.var (.i .i64) 0), (.var .x 1)]), (.app .x 13 2 [(.var (.i .i64) 0), (.var .x 1)])]), (.app (.i .i64) 15 0 [(.var (.i .i64) 2), (.lit (.i .i64) 700)]), (.lit (.i .i64) 0)])) (.and (.app .b 14 1000000 [(.app (.i .i64) 9003 0 [(.app (.i .i64) 13 0 [(.var (.i .i64) 0), (.var .x 1)]), (.app .x 13 1 [(.var (.i .i64) 0), (.var .x 1)]), (.app .x 13 2 [(.var (.i .i64) 0), (.var .x 1)]), (.app .x 14 0 [(.app (.i .i64) 13 0 [(.var (.i .i64) 0), (.var .x 1)]), (.app .x 13 1 [(.var (.i .i64) 0), (.var .x 1)]), (.app .x 13 2 [(.var (.i .i64) 0), (.var .x 1)])]), (.app (.i .i64) 15 0 [(.var (.i .i64) 2), (.lit (.i .i64) 700)]), (.lit (.i .i64) 0)]), (.app .x 9003 1 [(.app (.i .i64) 13 0 [(.var (.i .i64) 0), (.var .x 1)]), (.app .x 13 1 [(.var (.i .i64) 0), (.var .x 1)]), (.app .x 13 2 [(.var (.i .i64) 0), (.var .x 1)]), (.app .x 14 0 [(.app (.i .i64) 13 0 [(.var (.i .i64) 0), (.var .x 1)]), (.app .x 13 1 [(.var (.i .i64) 0), (.var .x 1)]), (.app .x 13 2 [(.var (.i .i64) 0), (.var .x 1)])]), (.app (.i .i64) 15 0 [(.var (.i .i64) 2), (.lit (.i .i64) 700)]), (.lit (.i .i64) 0)]), (.app .x 9003 2 [(.app (.i .i64) 13 0 [(.var (.i .i64) 0), (.var .x 1)]), (.app .x 13 1 [(.var (.i .i64) 0), (.var .x 1)]), (.app .x 13 2 [(.var (.i .i64) 0), (.var .x 1)]), (.app .x 14 0 [(.app (.i .i64) 13 0 [(.var (.i .i64) 0), (.var .x 1)]), (.app .x 13 1 [(.var (.i .i64) 0), (.var .x 1)]), (.app .x 13 2 [(.var (.i .i64) 0), (.var .x 1)])]), (.app (.i .i64) 15 0 [(.var (.i .i64) 2), (.lit (.i .i64) 700)]), (.lit (.i .i64) 0)])]) (.app .b 18 1000000 [(.app .x 14 0 [(.app (.i .i64) 9003 0 [(.app (.i .i64) 13 0 [(.var (.i .i64) 0), (.var .x 1)]), (.app .x 13 1 [(.var (.i .i64) 0), (.var .x 1)]), (.app .x 13 2 [(.var (.i .i64) 0), (.var .x 1)]), (.app .x 14 0 [(.app (.i .i64) 13 0 [(.var (.i .i64) 0), (.var .x 1)]), (.app .x 13 1 [(.var (.i .i64) 0), (.var .x 1)]), (.app .x 13 2 [(.var (.i .i64) 0), (.var .x 1)])]), (.app (.i .i64) 15 0 [(.var (.i .i64) 2), (.lit (.i .i64) 700)]), (.lit (.i .i64) 0)]), (.app .x 9003 1 [(.app (.i .i64) 13 0 [(.var (.i .i64) 0), (.var .x 1)]), (.app .x 13 1 [(.var (.i .i64) 0), (.var .x 1)]), (.app .x 13 2 [(.var (.i .i64) 0), (.var .x 1)]), (.app .x 14 0 [(.app (.i .i64) 13 0 [(.var (.i .i64) 0), (.var .x 1)]), (.app .x 13 1 [(.var (.i .i64) 0), (.var .x 1)]), (.app .x 13 2 [(.var (.i .i64) 0), (.var .x 1)])]), (.app (.i .i64) 15 0 [(.var (.i .i64) 2), (.lit (.i .i64) 700)]), (.lit (.i .i64) 0)]), (.app .x 9003 2 [(.app (.i .i64) 13 0 [(.var (.i .i64) 0), (.var .x 1)]), (.app .x 13 1 [(.var (.i .i64) 0), (.var .x 1)]), (.app .x 13 2 [(.var (.i .i64) 0), (.var .x 1)]), (.app .x 14 0 [(.app (.i .i64) 13 0 [(.var (.i .i64) 0), (.var .x 1)]), (.app .x 13 1 [(.var (.i .i64) 0), (.var .x 1)]), (.app .x 13 2 [(.var (.i .i64) 0), (.var .x 1)])]), (.app (.i .i64) 15 0 [(.var (.i .i64) 2), (.lit (.i .i64) 700)]), (.lit (.i .i64) 0)])]), (.app .x 9003 3 [(.app (.i .i64) 13 0 [(.var (.i .i64) 0), (.var .x 1)]), (.app .x 13 1 [(.var (.i .i64) 0), (.var .x 1)]), (.app .x 13 2 [(.var (.i .i64) 0), (.var .x 1)]), (.app .x 14 0 [(.app (.i .i64) 13 0 [(.var (.i .i64) 0), (.var .x 1)]), (.app .x 13 1 [(.var (.i .i64) 0), (.var .x 1)]), (.app .x 13 2 [(.var (.i .i64) 0), (.var .x 1)])]), (.app (.i .i64) 15 0 [(.var (.i .i64) 2), (.lit (.i .i64) 700)]), (.lit (.i .i64) 0)])])))))) (.app .b 18 0 [(.app .x 14 0 [(.app (.i .i64) 9003 0 [(.app (.i .i64) 13 0 [(.var (.i .i64) 0), (.var .x 1)]), (.app .x 13 1 [(.var (.i .i64) 0), (.var .x 1)]), (.app .x 13 2 [(.var (.i .i64) 0), (.var .x 1)]), (.app .x 14 0 [(.app (.i .i64) 13 0 [(.var (.i .i64) 0), (.var .x 1)]), (.app .x 13 1 [(.var (.i .i64) 0), (.var .x 1)]), (.app .x 13 2 [(.var (.i .i64) 0), (.var .x 1)])]), (.app (.i .i64) 15 0 [(.var (.i .i64) 2), (.lit (.i .i64) 700)]), (.lit (.i .i64) 0)]), (.app .x 9003 1 [(.app (.i .i64) 13 0 [(.var (.i .i64) 0), (.var .x 1)]), (.app .x 13 1 [(.var (.i .i64) 0), (.var .x 1)]), (.app .x 13 2 [(.var (.i .i64) 0), (.var .x 1)]), (.app .x 14 0 [(.app (.i .i64) 13 0 [(.var (.i .i64) 0), (.var .x 1)]), (.app .x 13 1 [(.var (.i .i64) 0), (.var .x 1)]), (.app .x 13 2 [(.var (.i .i64) 0), (.var .x 1)])]), (.app (.i .i64) 15 0 [(.var (.i .i64) 2), (.lit (.i .i64) 700)]), (.lit (.i .i64) 0)]), (.app .x 9003 2 [(.app (.i .i64) 13 0 [(.var (.i .i64) 0), (.var .x 1)]), (.app .x 13 1 [(.var (.i .i64) 0), (.var .x 1)]), (.app .x 13 2 [(.var (.i .i64) 0), (.var .x 1)]), (.app .x 14 0 [(.app (.i .i64) 13 0 [(.var (.i .i64) 0), (.var .x 1)]), (.app .x 13 1 [(.var (.i .i64) 0), (.var .x 1)]), (.app .x 13 2 [(.var (.i .i64) 0), (.var .x 1)])]), (.app (.i .i64) 15 0 [(.var (.i .i64) 2), (.lit (.i .i64) 700)]), (.lit (.i .i64) 0)])]), (.app .x 9003 3 [(.app (.i .i64) 13 0 [(.var (.i .i64) 0), (.var .x 1)]), (.app .x 13 1 [(.var (.i .i64) 0), (.var .x 1)]), (.app .x 13 2 [(.var (.i .i64) 0), (.var .x 1)]), (.app .x 14 0 [(.app (.i .i64) 13 0 [(.var (.i .i64) 0), (.var .x 1)]), (.app .x 13 1 [(.var (.i .i64) 0), (.var .x 1)]), (.app .x 13 2 [(.var (.i .i64) 0), (.var .x 1)])]), (.app (.i .i64) 15 0 [(.var (.i .i64) 2), (.lit (.i .i64) 700)]), (.lit (.i .i64) 0)])]))
def es_3 : List E := []
theorem ev_3 : evE Try.prog G0 (tabOf cQ3.fs) (ltOf cQ3.ls) 40 10 e3 = some (ob_3, es_3) := by kernel_rfl

theorem c3bok : c3b.OK Try.prog G0 := cEok.sub rfl (by simp [c3b, cE]) (by simp [c3b])
theorem c3cok : c3c.OK Try.prog G0 := cEok.sub rfl (by simp [c3c, cE]) (by simp [c3c])
theorem cntE_cons (t : Int) (r : List Int) (l : RL) : cntE t (r :: l) = if dlR r = t then cntE t l + 1 else 0 := by
  unfold cntE
  rw [List.takeWhile_cons]
  by_cases h : dlR r = t <;> simp [h]
theorem cntE_le (t : Int) (l : RL) : cntE t l ≤ l.length := (List.takeWhile_sublist _).length_le

set_option maxHeartbeats 4000000 in
theorem lo3b : ItemOK Try.prog G0 3 p3b le3b := by
  refine c3bok.loopP mixed mu3b rfl ?_ ev_L3b _ rfl _ rfl ?_
  · exact ⟨_, _, _, Try.func3, rfl, rfl⟩
  intro n xs hf hp hmu
  obtain ⟨l, hl, hS, hF⟩ := self_P le3b mu3b n c3b.l (by decide)
  show ob_L3b.tt (Tabs.F (enL le3b mu3b n :: c3b.l)) _ = true ∧ outsP le3b.ent.fn _ (Tabs.F (enL le3b mu3b n :: c3b.l)) _ _ _ _
  rw [hl]
  have F17_0 : ∀ xs, l.F 17 0 xs = e17.fn 0 xs := (hF e17 (by rfl) (by decide) (by decide)).1 0 rfl
  have P17 := (hF e17 (by rfl) (by decide) (by decide)).2
  replace P17 : ∀ xs, (i2b (K.b.norm (l.F 17 1000000 xs)) = true) = _ := P17
  have F9103_0 : ∀ xs, l.F 9103 0 xs = le3b.ent.fn 0 xs := hS.1 0 rfl
  have P9103 := hS.2
  replace P9103 : ∀ xs, (i2b (K.b.norm (l.F 9103 1000000 xs)) = true) = _ := P9103
  match xs, hf with
  | [now, tc, mc, c, i], hf =>
    obtain ⟨h0, h1, h2, h3, h4, _⟩ := hf
    simp only [norm_i, norm_x] at h0 h4
    obtain ⟨p1, p2, p3, p4⟩ := hp
    simp only [tt_and, tt_or, tt_not, tt_cmp, tt_lit, tt_ite, tt_var, tt_app, den_cmp, den_not, den_and, den_or, den_ite, den_lit, den_var, den_bin, den_dv, den_sh, den_conv, den_app, norm_i, norm_x, norm_b2i, nb1, nb0, i2b1, i2b0, preC, binI, dvI, shI, cmpB, env, List.map_cons, List.map_nil, List.getD_cons_succ, List.getD_cons_zero, List.getElem?_cons_zero, List.getElem?_cons_succ, i2b_b2i, F_bi, bi, List.headD, List.tail, List.map, dc_cd, List.nil_append, List.cons_append, Int.toNat_zero, Int.toNat_one, Int.toNat_natCast, Nat.zero_add, Nat.reduceAdd] at p1 p2 p3 p4 hmu
    unfold cap8 at p2
    have e1 : le3b.ent.fn = fn3b := rfl
    have e2 : le3b.ent.pre = pre3b := rfl
    have eF : ∀ i, fn3b 0 [now, tc, mc, c, i] = i + (cntE now ((dc c).drop i.toNat) : Int) := fun i => rfl
    have hcl := cntE_le now ((dc c).drop i.toNat)
    rw [List.length_drop] at hcl
    by_cases hlt : i < ((dc c).length : Int)
    · obtain ⟨r, hr, hrf, hrm, hrd⟩ := row_at p1 p3 (by omega)
      have hcc := cntE_cons now r ((dc c).drop (i + 1).toNat)
      rw [← hrd] at hcc
      match r, hrf with
      | [a, b], hrf =>
        obtain ⟨k0, k1, _⟩ := hrf
        simp only [norm_i] at k0 k1
        replace hcc : cntE now ((dc c).drop i.toNat) = if b = now then cntE now ((dc c).drop (i + 1).toNat) + 1 else 0 := hcc
        by_cases hb : b = now
        · rw [if_pos hb] at hcc
          refine ⟨?_, ?_, trivial⟩
          · simp (disch := omega) only [ob_L3b, tt_and, tt_or, tt_not, tt_cmp, tt_lit, tt_ite, tt_var, tt_app, den_cmp, den_not, den_and, den_or, den_ite, den_lit, den_var, den_bin, den_dv, den_sh, den_conv, den_app, norm_i, norm_x, norm_b2i, nb1, nb0, i2b1, i2b0, preC, binI, dvI, shI, cmpB, env, List.map_cons, List.map_nil, List.getD_cons_succ, List.getD_cons_zero, List.getElem?_cons_zero, List.getElem?_cons_succ, i2b_b2i, F_bi, bi, List.headD, List.tail, List.map, dc_cd, List.nil_append, List.cons_append, Int.toNat_zero, Int.toNat_one, Int.toNat_natCast, Nat.zero_add, Nat.reduceAdd, por, pnand, pand, pnor, pnot, pnnot, pcond, pncond, pdec, pndec, peq, pneq, pne, pnne, pgt, pge, dcond, Int.not_lt, Int.not_le, if_true, if_false, ite_true, ite_false, true_and, and_true, false_and, and_false, true_implies, implies_true, false_implies, forall_const, not_true_eq_false, not_false_eq_true, ne_eq, reduceCtorEq, List.take_length, Ent.nm_fn, Ent.nm_pre, List.drop_zero, i64w, u8w, u16w, u32w, u64w, Int.reduceEq, Int.reduceLT, Int.reduceLE, Int.reduceToNat, Int.reduceAdd, Int.reduceSub, Int.reduceMul, Int.reduceNeg, Int.reduceBEq, Nat.reduceAdd, Nat.reduceLT, Nat.reduceEqDiff, F17_0, P17, F9103_0, P9103, h0, h4, hlt, hr, k0, k1, e17, e2, hb]
            exact ⟨⟨p3, p3⟩, ⟨p1, by show ((dc c).length : Int) < cap8; unfold cap8; omega, by show 0 ≤ i + 1; omega, by show i + 1 ≤ ((dc c).length : Int); omega⟩, by simp only [mu3b, tt_and, tt_or, tt_not, tt_cmp, tt_lit, tt_ite, tt_var, tt_app, den_cmp, den_not, den_and, den_or, den_ite, den_lit, den_var, den_bin, den_dv, den_sh, den_conv, den_app, norm_i, norm_x, norm_b2i, nb1, nb0, i2b1, i2b0, preC, binI, dvI, shI, cmpB, env, List.map_cons, List.map_nil, List.getD_cons_succ, List.getD_cons_zero, List.getElem?_cons_zero, List.getElem?_cons_succ, i2b_b2i, F_bi, bi, List.headD, List.tail, List.map, dc_cd, List.nil_append, List.cons_append, Int.toNat_zero, Int.toNat_one, Int.toNat_natCast, Nat.zero_add, Nat.reduceAdd] at hmu ⊢; omega⟩
          · simp (disch := omega) only [es_L3b, tt_and, tt_or, tt_not, tt_cmp, tt_lit, tt_ite, tt_var, tt_app, den_cmp, den_not, den_and, den_or, den_ite, den_lit, den_var, den_bin, den_dv, den_sh, den_conv, den_app, norm_i, norm_x, norm_b2i, nb1, nb0, i2b1, i2b0, preC, binI, dvI, shI, cmpB, env, List.map_cons, List.map_nil, List.getD_cons_succ, List.getD_cons_zero, List.getElem?_cons_zero, List.getElem?_cons_succ, i2b_b2i, F_bi, bi, List.headD, List.tail, List.map, dc_cd, List.nil_append, List.cons_append, Int.toNat_zero, Int.toNat_one, Int.toNat_natCast, Nat.zero_add, Nat.reduceAdd, por, pnand, pand, pnor, pnot, pnnot, pcond, pncond, pdec, pndec, peq, pneq, pne, pnne, pgt, pge, dcond, Int.not_lt, Int.not_le, if_true, if_false, ite_true, ite_false, true_and, and_true, false_and, and_false, true_implies, implies_true, false_implies, forall_const, not_true_eq_false, not_false_eq_true, ne_eq, reduceCtorEq, List.take_length, Ent.nm_fn, Ent.nm_pre, List.drop_zero, i64w, u8w, u16w, u32w, u64w, Int.reduceEq, Int.reduceLT, Int.reduceLE, Int.reduceToNat, Int.reduceAdd, Int.reduceSub, Int.reduceMul, Int.reduceNeg, Int.reduceBEq, Nat.reduceAdd, Nat.reduceLT, Nat.reduceEqDiff, F17_0, P17, F9103_0, P9103, h0, h4, hlt, hr, k0, k1, e17, e1, hb]
            rw [eF, eF, hcc]; congr 1; omega
        · rw [if_neg hb] at hcc
          refine ⟨?_, ?_, trivial⟩
          · simp (disch := omega) only [ob_L3b, tt_and, tt_or, tt_not, tt_cmp, tt_lit, tt_ite, tt_var, tt_app, den_cmp, den_not, den_and, den_or, den_ite, den_lit, den_var, den_bin, den_dv, den_sh, den_conv, den_app, norm_i, norm_x, norm_b2i, nb1, nb0, i2b1, i2b0, preC, binI, dvI, shI, cmpB, env, List.map_cons, List.map_nil, List.getD_cons_succ, List.getD_cons_zero, List.getElem?_cons_zero, List.getElem?_cons_succ, i2b_b2i, F_bi, bi, List.headD, List.tail, List.map, dc_cd, List.nil_append, List.cons_append, Int.toNat_zero, Int.toNat_one, Int.toNat_natCast, Nat.zero_add, Nat.reduceAdd, por, pnand, pand, pnor, pnot, pnnot, pcond, pncond, pdec, pndec, peq, pneq, pne, pnne, pgt, pge, dcond, Int.not_lt, Int.not_le, if_true, if_false, ite_true, ite_false, true_and, and_true, false_and, and_false, true_implies, implies_true, false_implies, forall_const, not_true_eq_false, not_false_eq_true, ne_eq, reduceCtorEq, List.take_length, Ent.nm_fn, Ent.nm_pre, List.drop_zero, i64w, u8w, u16w, u32w, u64w, Int.reduceEq, Int.reduceLT, Int.reduceLE, Int.reduceToNat, Int.reduceAdd, Int.reduceSub, Int.reduceMul, Int.reduceNeg, Int.reduceBEq, Nat.reduceAdd, Nat.reduceLT, Nat.reduceEqDiff, F17_0, P17, F9103_0, P9103, h0, h4, hlt, hr, k0, k1, e17, e2, hb]
            exact ⟨p3, p3⟩
          · simp (disch := omega) only [es_L3b, tt_and, tt_or, tt_not, tt_cmp, tt_lit, tt_ite, tt_var, tt_app, den_cmp, den_not, den_and, den_or, den_ite, den_lit, den_var, den_bin, den_dv, den_sh, den_conv, den_app, norm_i, norm_x, norm_b2i, nb1, nb0, i2b1, i2b0, preC, binI, dvI, shI, cmpB, env, List.map_cons, List.map_nil, List.getD_cons_succ, List.getD_cons_zero, List.getElem?_cons_zero, List.getElem?_cons_succ, i2b_b2i, F_bi, bi, List.headD, List.tail, List.map, dc_cd, List.nil_append, List.cons_append, Int.toNat_zero, Int.toNat_one, Int.toNat_natCast, Nat.zero_add, Nat.reduceAdd, por, pnand, pand, pnor, pnot, pnnot, pcond, pncond, pdec, pndec, peq, pneq, pne, pnne, pgt, pge, dcond, Int.not_lt, Int.not_le, if_true, if_false, ite_true, ite_false, true_and, and_true, false_and, and_false, true_implies, implies_true, false_implies, forall_const, not_true_eq_false, not_false_eq_true, ne_eq, reduceCtorEq, List.take_length, Ent.nm_fn, Ent.nm_pre, List.drop_zero, i64w, u8w, u16w, u32w, u64w, Int.reduceEq, Int.reduceLT, Int.reduceLE, Int.reduceToNat, Int.reduceAdd, Int.reduceSub, Int.reduceMul, Int.reduceNeg, Int.reduceBEq, Nat.reduceAdd, Nat.reduceLT, Nat.reduceEqDiff, F17_0, P17, F9103_0, P9103, h0, h4, hlt, hr, k0, k1, e17, e1, hb]
            rw [eF, hcc]; simpa using h4
    · refine ⟨?_, ?_, trivial⟩
      · simp (disch := omega) only [ob_L3b, tt_and, tt_or, tt_not, tt_cmp, tt_lit, tt_ite, tt_var, tt_app, den_cmp, den_not, den_and, den_or, den_ite, den_lit, den_var, den_bin, den_dv, den_sh, den_conv, den_app, norm_i, norm_x, norm_b2i, nb1, nb0, i2b1, i2b0, preC, binI, dvI, shI, cmpB, env, List.map_cons, List.map_nil, List.getD_cons_succ, List.getD_cons_zero, List.getElem?_cons_zero, List.getElem?_cons_succ, i2b_b2i, F_bi, bi, List.headD, List.tail, List.map, dc_cd, List.nil_append, List.cons_append, Int.toNat_zero, Int.toNat_one, Int.toNat_natCast, Nat.zero_add, Nat.reduceAdd, por, pnand, pand, pnor, pnot, pnnot, pcond, pncond, pdec, pndec, peq, pneq, pne, pnne, pgt, pge, dcond, Int.not_lt, Int.not_le, if_true, if_false, ite_true, ite_false, true_and, and_true, false_and, and_false, true_implies, implies_true, false_implies, forall_const, not_true_eq_false, not_false_eq_true, ne_eq, reduceCtorEq, List.take_length, Ent.nm_fn, Ent.nm_pre, List.drop_zero, i64w, u8w, u16w, u32w, u64w, Int.reduceEq, Int.reduceLT, Int.reduceLE, Int.reduceToNat, Int.reduceAdd, Int.reduceSub, Int.reduceMul, Int.reduceNeg, Int.reduceBEq, Nat.reduceAdd, Nat.reduceLT, Nat.reduceEqDiff, F17_0, P17, F9103_0, P9103, h0, h4, hlt, e17, e2]
      · simp (disch := omega) only [es_L3b, tt_and, tt_or, tt_not, tt_cmp, tt_lit, tt_ite, tt_var, tt_app, den_cmp, den_not, den_and, den_or, den_ite, den_lit, den_var, den_bin, den_dv, den_sh, den_conv, den_app, norm_i, norm_x, norm_b2i, nb1, nb0, i2b1, i2b0, preC, binI, dvI, shI, cmpB, env, List.map_cons, List.map_nil, List.getD_cons_succ, List.getD_cons_zero, List.getElem?_cons_zero, List.getElem?_cons_succ, i2b_b2i, F_bi, bi, List.headD, List.tail, List.map, dc_cd, List.nil_append, List.cons_append, Int.toNat_zero, Int.toNat_one, Int.toNat_natCast, Nat.zero_add, Nat.reduceAdd, por, pnand, pand, pnor, pnot, pnnot, pcond, pncond, pdec, pndec, peq, pneq, pne, pnne, pgt, pge, dcond, Int.not_lt, Int.not_le, if_true, if_false, ite_true, ite_false, true_and, and_true, false_and, and_false, true_implies, implies_true, false_implies, forall_const, not_true_eq_false, not_false_eq_true, ne_eq, reduceCtorEq, List.take_length, Ent.nm_fn, Ent.nm_pre, List.drop_zero, i64w, u8w, u16w, u32w, u64w, Int.reduceEq, Int.reduceLT, Int.reduceLE, Int.reduceToNat, Int.reduceAdd, Int.reduceSub, Int.reduceMul, Int.reduceNeg, Int.reduceBEq, Nat.reduceAdd, Nat.reduceLT, Nat.reduceEqDiff, F17_0, P17, F9103_0, P9103, h0, h4, hlt, e17, e1]
        have hz : cntE now ((dc c).drop i.toNat) = 0 := by omega
        rw [eF, hz]; simpa using h4

set_option maxHeartbeats 4000000 in
theorem pi3c : ItemOK Try.prog G0 3 p3c le3c := by
  refine c3cok.pieceP mixed ?_ ev_C3c _ rfl _ rfl ?_
  · exact ⟨_, _, _, Try.func3, rfl, rfl⟩
  intro xs hf hp
  obtain ⟨l, hl, hF⟩ := ctx_P (l0 := c3c.l)
  show ob_C3c.tt c3c.l.F _ = true ∧ outsP le3c.ent.fn _ c3c.l.F _ _ _ _
  rw [hl]
  have F17_0 : ∀ xs, l.F 17 0 xs = e17.fn 0 xs := (hF e17 (by rfl) (by decide)).1 0 rfl
  have P17 := (hF e17 (by rfl) (by decide)).2
  replace P17 : ∀ xs, (i2b (K.b.norm (l.F 17 1000000 xs)) = true) = _ := P17
  have F18_0 : ∀ xs, l.F 18 0 xs = e18.fn 0 xs := (hF e18 (by rfl) (by decide)).1 0 rfl
  have P18 := (hF e18 (by rfl) (by decide)).2
  replace P18 : ∀ xs, (i2b (K.b.norm (l.F 18 1000000 xs)) = true) = _ := P18
  match xs, hf with
  | [now, tc, mc, c, d, e, i], hf =>
    obtain ⟨h0, h1, h2, h3, h4, h5, h6, _⟩ := hf
    simp only [norm_i, norm_x] at h0 h5 h6
    obtain ⟨p1, p2, p3, p4, p5, p6, p7⟩ := hp
    simp only [tt_and, tt_or, tt_not, tt_cmp, tt_lit, tt_ite, tt_var, tt_app, den_cmp, den_not, den_and, den_or, den_ite, den_lit, den_var, den_bin, den_dv, den_sh, den_conv, den_app, norm_i, norm_x, norm_b2i, nb1, nb0, i2b1, i2b0, preC, binI, dvI, shI, cmpB, env, List.map_cons, List.map_nil, List.getD_cons_succ, List.getD_cons_zero, List.getElem?_cons_zero, List.getElem?_cons_succ, i2b_b2i, F_bi, bi, List.headD, List.tail, List.map, dc_cd, List.nil_append, List.cons_append, Int.toNat_zero, Int.toNat_one, Int.toNat_natCast, Nat.zero_add, Nat.reduceAdd] at p1 p2 p3 p4 p5 p6 p7
    unfold cap8 at p3
    refine ⟨?_, trivial⟩
    by_cases hlt : i < ((dc c).length : Int)
    · obtain ⟨r, hr, hrf, hrm, hrd⟩ := row_at p2 p4 (by omega)
      have p8 := p7 r hrd
      match r, hrf with
      | [a, b], hrf =>
        obtain ⟨k0, k1, _⟩ := hrf
        simp only [norm_i] at k0 k1
        simp (disch := omega) only [ob_C3c, tt_and, tt_or, tt_not, tt_cmp, tt_lit, tt_ite, tt_var, tt_app, den_cmp, den_not, den_and, den_or, den_ite, den_lit, den_var, den_bin, den_dv, den_sh, den_conv, den_app, norm_i, norm_x, norm_b2i, nb1, nb0, i2b1, i2b0, preC, binI, dvI, shI, cmpB, env, List.map_cons, List.map_nil, List.getD_cons_succ, List.getD_cons_zero, List.getElem?_cons_zero, List.getElem?_cons_succ, i2b_b2i, F_bi, bi, List.headD, List.tail, List.map, dc_cd, List.nil_append, List.cons_append, Int.toNat_zero, Int.toNat_one, Int.toNat_natCast, Nat.zero_add, Nat.reduceAdd, por, pnand, pand, pnor, pnot, pnnot, pcond, pncond, pdec, pndec, peq, pneq, pne, pnne, pgt, pge, dcond, Int.not_lt, Int.not_le, if_true, if_false, ite_true, ite_false, true_and, and_true, false_and, and_false, true_implies, implies_true, false_implies, forall_const, not_true_eq_false, not_false_eq_true, ne_eq, reduceCtorEq, List.take_length, Ent.nm_fn, Ent.nm_pre, List.drop_zero, i64w, u8w, u16w, u32w, u64w, Int.reduceEq, Int.reduceLT, Int.reduceLE, Int.reduceToNat, Int.reduceAdd, Int.reduceSub, Int.reduceMul, Int.reduceNeg, Int.reduceBEq, Nat.reduceAdd, Nat.reduceLT, Nat.reduceEqDiff, F17_0, P17, F18_0, P18, h0, h5, h6, p1, hlt, hr, k0, k1, e17, e18]
        have hq : pre18 [d, cd ((dc c).take i.toNat)] := by
          show ((dc d).length : Int) < cap8 ∧ ((dc (cd _)).length : Int) < cap8 ∧ rowsOK tmK (dc d) ∧ rowsOK tmK (dc (cd _))
          rw [p6, dc_cd]
          refine ⟨?_, ?_, fun r hr => p2 r (List.mem_of_mem_take hr), fun r hr => p2 r (List.mem_of_mem_take hr)⟩ <;> (unfold cap8; simp only [List.length_take]; omega)
        rw [p6, beq_self_eq_true]
        exact ⟨⟨⟨p4, p5⟩, hq, fun _ => p4, fun _ => p4⟩, rfl, p8⟩
    · simp (disch := omega) only [ob_C3c, tt_and, tt_or, tt_not, tt_cmp, tt_lit, tt_ite, tt_var, tt_app, den_cmp, den_not, den_and, den_or, den_ite, den_lit, den_var, den_bin, den_dv, den_sh, den_conv, den_app, norm_i, norm_x, norm_b2i, nb1, nb0, i2b1, i2b0, preC, binI, dvI, shI, cmpB, env, List.map_cons, List.map_nil, List.getD_cons_succ, List.getD_cons_zero, List.getElem?_cons_zero, List.getElem?_cons_succ, i2b_b2i, F_bi, bi, List.headD, List.tail, List.map, dc_cd, List.nil_append, List.cons_append, Int.toNat_zero, Int.toNat_one, Int.toNat_natCast, Nat.zero_add, Nat.reduceAdd, por, pnand, pand, pnor, pnot, pnnot, pcond, pncond, pdec, pndec, peq, pneq, pne, pnne, pgt, pge, dcond, Int.not_lt, Int.not_le, if_true, if_false, ite_true, ite_false, true_and, and_true, false_and, and_false, true_implies, implies_true, false_implies, forall_const, not_true_eq_false, not_false_eq_true, ne_eq, reduceCtorEq, List.take_length, Ent.nm_fn, Ent.nm_pre, List.drop_zero, i64w, u8w, u16w, u32w, u64w, Int.reduceEq, Int.reduceLT, Int.reduceLE, Int.reduceToNat, Int.reduceAdd, Int.reduceSub, Int.reduceMul, Int.reduceNeg, Int.reduceBEq, Nat.reduceAdd, Nat.reduceLT, Nat.reduceEqDiff, F17_0, P17, F18_0, P18, h0, h5, h6, p1, hlt, e17, e18]
      have hq : pre18 [d, cd ((dc c).take i.toNat)] := by
        show ((dc d).length : Int) < cap8 ∧ ((dc (cd _)).length : Int) < cap8 ∧ rowsOK tmK (dc d) ∧ rowsOK tmK (dc (cd _))
        rw [p6, dc_cd]
        refine ⟨?_, ?_, fun r hr => p2 r (List.mem_of_mem_take hr), fun r hr => p2 r (List.mem_of_mem_take hr)⟩ <;> (unfold cap8; simp only [List.length_take]; omega)
      rw [p6, beq_self_eq_true]
      exact ⟨⟨⟨p4, p5⟩, hq⟩, rfl⟩

/-- One tick: what comes is the first timers, those whose deadline is the new time. -/
theorem QI.tick {now : Int} {T M : RL} (h : QI now T M) : dueT (now + 1) T = T.take (cntE (now + 1) T) ∧ leftT (now + 1) T = T.drop (cntE (now + 1) T) ∧ ∀ r ∈ T.drop (cntE (now + 1) T), now + 1 < dlR r := by
  obtain ⟨s1, s2⟩ := h.split (now + 1)
  have hd : ∀ r ∈ dueT (now + 1) T, (dlR r == now + 1) = true := fun r hr => by
    have hr' := List.mem_filter.1 hr
    have h1 := h.rng r hr'.1
    have h2 := hr'.2
    simp only [decide_eq_true_eq] at h2
    rw [beq_iff_eq]; omega
  have hl : ∀ r ∈ leftT (now + 1) T, now + 1 < dlR r := fun r hr => by
    have hr' := (List.mem_filter.1 hr).2
    simpa using hr'
  have hw : T.takeWhile (fun r => dlR r == now + 1) = dueT (now + 1) T := by
    conv => lhs; rw [← List.take_append_drop (cnt T [0, now + 1 + 1]) T, s1, s2]
    rw [List.takeWhile_append_of_pos hd]
    have : (leftT (now + 1) T).takeWhile (fun r => dlR r == now + 1) = [] := by
      cases hc : leftT (now + 1) T with
      | nil => rfl
      | cons x l =>
        have := hl x (by rw [hc]; exact List.mem_cons_self ..)
        rw [List.takeWhile_cons_of_neg]
        rw [beq_iff_eq]; omega
    rw [this, List.append_nil]
  have hT : T = dueT (now + 1) T ++ leftT (now + 1) T := by rw [← s1, ← s2, List.take_append_drop]
  have hk : cntE (now + 1) T = (dueT (now + 1) T).length := by unfold cntE; rw [hw]
  have e1 : T.take (cntE (now + 1) T) = dueT (now + 1) T := by
    rw [hk]
    exact (congrArg (List.take _) hT).trans (List.take_left' rfl)
  have e2 : T.drop (cntE (now + 1) T) = leftT (now + 1) T := by
    rw [hk]
    exact (congrArg (List.drop _) hT).trans (List.drop_left' rfl)
  exact ⟨e1.symm, e2.symm, by rw [e2]; exact hl⟩
theorem tick_out {now tc mc : Int} (h : QI now (dc tc) (dc mc)) (hb : now + 1 ≤ 1099511627776) : fn16 0 [now, tc, mc] = now + 1 ∧ fn16 1 [now, tc, mc] = cd ((dc tc).drop (cntE (now + 1) (dc tc))) ∧ fn16 3 [now, tc, mc] = cd ((dc tc).take (cntE (now + 1) (dc tc))) ∧ fn16 4 [now, tc, mc] = 0 ∧
    QI (now + 1) ((dc tc).drop (cntE (now + 1) (dc tc))) (dc (fn16 2 [now, tc, mc])) := by
  have ht := h.tim
  have e : tickT now = now + 1 := by unfold tickT; split <;> omega
  have hb' : toB now (now + 1) = true := toB_ok (by omega) hb
  obtain ⟨t1, t2, t3⟩ := h.tick
  have hq := h.toF (t := now + 1)
  have g0 : fn16 0 [now, tc, mc] = now + 1 := by show (bif toB now (tickT now) then tickT now else now) = _; rw [e, hb']; rfl
  have g1 : fn16 1 [now, tc, mc] = cd ((dc tc).drop (cntE (now + 1) (dc tc))) := by show (bif toB now (tickT now) then cd (leftT (tickT now) (dc tc)) else tc) = _; rw [e, hb', t2]; rfl
  have g3 : fn16 3 [now, tc, mc] = cd ((dc tc).take (cntE (now + 1) (dc tc))) := by show (bif toB now (tickT now) then cd (dueT (tickT now) (dc tc)) else cd []) = _; rw [e, hb', t1]; rfl
  have g4 : fn16 4 [now, tc, mc] = 0 := by show (bif toB now (tickT now) then (0 : Int) else 2) = _; rw [e, hb']; rfl
  have j0 : fn24 0 [now, tc, mc, now + 1] = fn16 0 [now, tc, mc] := by unfold fn16; rw [← e]; rfl
  have j1 : fn24 1 [now, tc, mc, now + 1] = fn16 1 [now, tc, mc] := by unfold fn16; rw [← e]; rfl
  have j2 : fn24 2 [now, tc, mc, now + 1] = fn16 2 [now, tc, mc] := by unfold fn16; rw [← e]; rfl
  rw [j0, j1, j2, g0, g1, dc_cd] at hq
  exact ⟨g0, g1, g3, g4, hq⟩

theorem c3aok : c3a.OK Try.prog G0 := by
  have h1 : Ctx.OK Try.prog G0 ⟨[e16, e17, e18, e19], []⟩ := cEok.sub rfl (by simp [cE]) (by simp)
  exact ((h1.addL pi3c rfl).addL lo3b rfl).sub rfl (by simp [c3a]) (by simp [c3a])

set_option maxHeartbeats 4000000 in
theorem lo3a : ItemOK Try.prog G0 3 p3a le3a := by
  refine c3aok.loopP mixed mu3a rfl ?_ ev_L3a _ rfl _ rfl ?_
  · exact ⟨_, _, _, Try.func3, rfl, rfl⟩
  intro n xs hf hp hmu
  obtain ⟨l, hl, hS, hF⟩ := self_P le3a mu3a n c3a.l (by decide)
  show ob_L3a.tt (Tabs.F (enL le3a mu3a n :: c3a.l)) _ = true ∧ outsP le3a.ent.fn _ (Tabs.F (enL le3a mu3a n :: c3a.l)) _ _ _ _
  rw [hl]
  have F16_0 : ∀ xs, l.F 16 0 xs = e16.fn 0 xs := (hF e16 (by rfl) (by decide) (by decide)).1 0 rfl
  have F16_1 : ∀ xs, l.F 16 1 xs = e16.fn 1 xs := (hF e16 (by rfl) (by decide) (by decide)).1 1 rfl
  have F16_2 : ∀ xs, l.F 16 2 xs = e16.fn 2 xs := (hF e16 (by rfl) (by decide) (by decide)).1 2 rfl
  have F16_3 : ∀ xs, l.F 16 3 xs = e16.fn 3 xs := (hF e16 (by rfl) (by decide) (by decide)).1 3 rfl
  have F16_4 : ∀ xs, l.F 16 4 xs = e16.fn 4 xs := (hF e16 (by rfl) (by decide) (by decide)).1 4 rfl
  have P16 := (hF e16 (by rfl) (by decide) (by decide)).2
  replace P16 : ∀ xs, (i2b (K.b.norm (l.F 16 1000000 xs)) = true) = _ := P16
  have F19_0 : ∀ xs, l.F 19 0 xs = e19.fn 0 xs := (hF e19 (by rfl) (by decide) (by decide)).1 0 rfl
  have P19 := (hF e19 (by rfl) (by decide) (by decide)).2
  replace P19 : ∀ xs, (i2b (K.b.norm (l.F 19 1000000 xs)) = true) = _ := P19
  have F9003_0 : ∀ xs, l.F 9003 0 xs = le3a.ent.fn 0 xs := hS.1 0 rfl
  have F9003_1 : ∀ xs, l.F 9003 1 xs = le3a.ent.fn 1 xs := hS.1 1 rfl
  have F9003_2 : ∀ xs, l.F 9003 2 xs = le3a.ent.fn 2 xs := hS.1 2 rfl
  have F9003_3 : ∀ xs, l.F 9003 3 xs = le3a.ent.fn 3 xs := hS.1 3 rfl
  have P9003 := hS.2
  replace P9003 : ∀ xs, (i2b (K.b.norm (l.F 9003 1000000 xs)) = true) = _ := P9003
  have F9103_0 : ∀ xs, l.F 9103 0 xs = le3b.ent.fn 0 xs := (hF le3b.ent (by rfl) (by decide) (by decide)).1 0 rfl
  have P9103 := (hF le3b.ent (by rfl) (by decide) (by decide)).2
  replace P9103 : ∀ xs, (i2b (K.b.norm (l.F 9103 1000000 xs)) = true) = _ := P9103
  have P9113 := (hF le3c.ent (by rfl) (by decide) (by decide)).2
  replace P9113 : ∀ xs, (i2b (K.b.norm (l.F 9113 1000000 xs)) = true) = _ := P9113
  match xs, hf with
  | [now, tc, mc, c, m, i], hf =>
    obtain ⟨h0, h1, h2, h3, h4, h5, _⟩ := hf
    simp only [norm_i, norm_x] at h0 h4 h5
    obtain ⟨p1, p2, p3, p4, p5⟩ := hp
    simp only [tt_and, tt_or, tt_not, tt_cmp, tt_lit, tt_ite, tt_var, tt_app, den_cmp, den_not, den_and, den_or, den_ite, den_lit, den_var, den_bin, den_dv, den_sh, den_conv, den_app, norm_i, norm_x, norm_b2i, nb1, nb0, i2b1, i2b0, preC, binI, dvI, shI, cmpB, env, List.map_cons, List.map_nil, List.getD_cons_succ, List.getD_cons_zero, List.getElem?_cons_zero, List.getElem?_cons_succ, i2b_b2i, F_bi, bi, List.headD, List.tail, List.map, dc_cd, List.nil_append, List.cons_append, Int.toNat_zero, Int.toNat_one, Int.toNat_natCast, Nat.zero_add, Nat.reduceAdd] at p1 p2 p3 p4 p5 hmu
    replace p1 : QI now (dc tc) (dc mc) := p1
    have ht := p1.tim
    have hl := p1.len
    have e1 : le3a.ent.fn = fn3a := rfl
    have e2 : le3a.ent.pre = pre3a := rfl
    by_cases hlt : i < m
    · obtain ⟨g0, g1, g3, g4, hq⟩ := tick_out p1 (by omega)
      have hn : now + 1 ≤ 1099511627776 := by omega
      obtain ⟨K, hK⟩ : ∃ K, K = cntE (now + 1) (dc tc) := ⟨_, rfl⟩
      have hKl := cntE_le (now + 1) (dc tc)
      rw [← hK] at g1 g3 hq hKl
      have b3 : fn3b 0 [now + 1, cd ((dc tc).drop K), fn16 2 [now, tc, mc], c, 0] = (K : Int) := by
        show (0 : Int) + (cntE (now + 1) ((dc c).drop (0 : Int).toNat) : Int) = K
        rw [p2, hK]; simp
      have hm := i64r h4
      have hcl : (dc c).length = (dc tc).length := by rw [p2]
      have hq' : QI (now + 1) (dc (cd ((dc tc).drop K))) (dc (fn16 2 [now, tc, mc])) := by rw [dc_cd]; exact hq
      have key : ∀ j, fn3a j [now, tc, mc, c, m, i] = fn3a j [now + 1, cd ((dc tc).drop K), fn16 2 [now, tc, mc], cd ((dc c).drop K), m, i + 1] := fun j => by
        show get4 j (iterD (m - i).toNat (now, tc, mc, c)) = get4 j (iterD (m - (i + 1)).toNat (now + 1, cd ((dc tc).drop K), fn16 2 [now, tc, mc], cd ((dc c).drop K)))
        rw [show (m - i).toNat = (m - (i + 1)).toNat + 1 by omega]
        show get4 j (iterD (m - (i + 1)).toNat (stepD (now, tc, mc, c))) = _
        have : stepD (now, tc, mc, c) = (now + 1, cd ((dc tc).drop K), fn16 2 [now, tc, mc], cd ((dc c).drop K)) := by
          simp only [stepD, g0, g1, p2, ← hK]
        rw [this]
      refine ⟨?_, ?_, ?_, ?_, ?_, trivial⟩
      · simp (disch := omega) only [ob_L3a, tt_and, tt_or, tt_not, tt_cmp, tt_lit, tt_ite, tt_var, tt_app, den_cmp, den_not, den_and, den_or, den_ite, den_lit, den_var, den_bin, den_dv, den_sh, den_conv, den_app, norm_i, norm_x, norm_b2i, nb1, nb0, i2b1, i2b0, preC, binI, dvI, shI, cmpB, env, List.map_cons, List.map_nil, List.getD_cons_succ, List.getD_cons_zero, List.getElem?_cons_zero, List.getElem?_cons_succ, i2b_b2i, F_bi, bi, List.headD, List.tail, List.map, dc_cd, List.nil_append, List.cons_append, Int.toNat_zero, Int.toNat_one, Int.toNat_natCast, Nat.zero_add, Nat.reduceAdd, por, pnand, pand, pnor, pnot, pnnot, pcond, pncond, pdec, pndec, peq, pneq, pne, pnne, pgt, pge, dcond, Int.not_lt, Int.not_le, if_true, if_false, ite_true, ite_false, true_and, and_true, false_and, and_false, true_implies, implies_true, false_implies, forall_const, not_true_eq_false, not_false_eq_true, ne_eq, reduceCtorEq, List.take_length, Ent.nm_fn, Ent.nm_pre, List.drop_zero, i64w, u8w, u16w, u32w, u64w, Int.reduceEq, Int.reduceLT, Int.reduceLE, Int.reduceToNat, Int.reduceAdd, Int.reduceSub, Int.reduceMul, Int.reduceNeg, Int.reduceBEq, Nat.reduceAdd, Nat.reduceLT, Nat.reduceEqDiff, F16_0, F16_1, F16_2, F16_3, F16_4, P16, F19_0, P19, F9003_0, F9003_1, F9003_2, F9003_3, P9003, F9103_0, P9103, P9113, h0, h4, h5, hlt, e16, e17, e19, g0, g1, g3, g4, e1, e2, le3b, le3c, b3]
        have hr : rowsOK tmK (dc c) := by rw [p2]; exact p1.row
        refine ⟨⟨⟨p1, ⟨hr, by show ((dc c).length : Int) < cap8; unfold cap8; omega, by show (0 : Int) ≤ 0; omega, by show (0 : Int) ≤ ((dc c).length : Int); omega⟩, ?_, by omega, by omega⟩, fun _ => ⟨⟨hq', ?_, by show 0 ≤ i + 1; omega, by show i + 1 ≤ m; omega, by show now + 1 + (m - (i + 1)) ≤ 1099511627776; omega⟩, by simp only [mu3a, tt_and, tt_or, tt_not, tt_cmp, tt_lit, tt_ite, tt_var, tt_app, den_cmp, den_not, den_and, den_or, den_ite, den_lit, den_var, den_bin, den_dv, den_sh, den_conv, den_app, norm_i, norm_x, norm_b2i, nb1, nb0, i2b1, i2b0, preC, binI, dvI, shI, cmpB, env, List.map_cons, List.map_nil, List.getD_cons_succ, List.getD_cons_zero, List.getElem?_cons_zero, List.getElem?_cons_succ, i2b_b2i, F_bi, bi, List.headD, List.tail, List.map, dc_cd, List.nil_append, List.cons_append, Int.toNat_zero, Int.toNat_one, Int.toNat_natCast, Nat.zero_add, Nat.reduceAdd] at hmu ⊢; omega⟩⟩, by rw [p2]⟩
        · refine ⟨rfl, hr, by show ((dc c).length : Int) < cap8; unfold cap8; omega, by show (0 : Int) ≤ (K : Int); omega, by show (K : Int) ≤ ((dc c).length : Int); omega, ?_, ?_⟩
          · show dc (cd ((dc tc).take K)) = (dc c).take (K : Int).toNat
            rw [dc_cd, p2, Int.toNat_natCast]
          · intro r hrd
            replace hrd : (dc c).drop (K : Int).toNat = r :: (dc c).drop ((K : Int) + 1).toNat := hrd
            rw [Int.toNat_natCast, p2] at hrd
            have := p1.tick.2.2 r (by rw [← hK, hrd]; exact List.mem_cons_self ..)
            show now + 1 ≤ dlR r
            omega
        · show dc (cd ((dc c).drop K)) = dc (cd ((dc tc).drop K))
          rw [p2]
      · simp (disch := omega) only [es_L3a, tt_and, tt_or, tt_not, tt_cmp, tt_lit, tt_ite, tt_var, tt_app, den_cmp, den_not, den_and, den_or, den_ite, den_lit, den_var, den_bin, den_dv, den_sh, den_conv, den_app, norm_i, norm_x, norm_b2i, nb1, nb0, i2b1, i2b0, preC, binI, dvI, shI, cmpB, env, List.map_cons, List.map_nil, List.getD_cons_succ, List.getD_cons_zero, List.getElem?_cons_zero, List.getElem?_cons_succ, i2b_b2i, F_bi, bi, List.headD, List.tail, List.map, dc_cd, List.nil_append, List.cons_append, Int.toNat_zero, Int.toNat_one, Int.toNat_natCast, Nat.zero_add, Nat.reduceAdd, por, pnand, pand, pnor, pnot, pnnot, pcond, pncond, pdec, pndec, peq, pneq, pne, pnne, pgt, pge, dcond, Int.not_lt, Int.not_le, if_true, if_false, ite_true, ite_false, true_and, and_true, false_and, and_false, true_implies, implies_true, false_implies, forall_const, not_true_eq_false, not_false_eq_true, ne_eq, reduceCtorEq, List.take_length, Ent.nm_fn, Ent.nm_pre, List.drop_zero, i64w, u8w, u16w, u32w, u64w, Int.reduceEq, Int.reduceLT, Int.reduceLE, Int.reduceToNat, Int.reduceAdd, Int.reduceSub, Int.reduceMul, Int.reduceNeg, Int.reduceBEq, Nat.reduceAdd, Nat.reduceLT, Nat.reduceEqDiff, F16_0, F16_1, F16_2, F16_3, F16_4, P16, F19_0, P19, F9003_0, F9003_1, F9003_2, F9003_3, P9003, F9103_0, P9103, P9113, h0, h4, h5, hlt, e16, e17, e19, g0, g1, g3, g4, e1, e2, le3b, le3c, b3]
        rw [key 0]
      · simp (disch := omega) only [es_L3a, tt_and, tt_or, tt_not, tt_cmp, tt_lit, tt_ite, tt_var, tt_app, den_cmp, den_not, den_and, den_or, den_ite, den_lit, den_var, den_bin, den_dv, den_sh, den_conv, den_app, norm_i, norm_x, norm_b2i, nb1, nb0, i2b1, i2b0, preC, binI, dvI, shI, cmpB, env, List.map_cons, List.map_nil, List.getD_cons_succ, List.getD_cons_zero, List.getElem?_cons_zero, List.getElem?_cons_succ, i2b_b2i, F_bi, bi, List.headD, List.tail, List.map, dc_cd, List.nil_append, List.cons_append, Int.toNat_zero, Int.toNat_one, Int.toNat_natCast, Nat.zero_add, Nat.reduceAdd, por, pnand, pand, pnor, pnot, pnnot, pcond, pncond, pdec, pndec, peq, pneq, pne, pnne, pgt, pge, dcond, Int.not_lt, Int.not_le, if_true, if_false, ite_true, ite_false, true_and, and_true, false_and, and_false, true_implies, implies_true, false_implies, forall_const, not_true_eq_false, not_false_eq_true, ne_eq, reduceCtorEq, List.take_length, Ent.nm_fn, Ent.nm_pre, List.drop_zero, i64w, u8w, u16w, u32w, u64w, Int.reduceEq, Int.reduceLT, Int.reduceLE, Int.reduceToNat, Int.reduceAdd, Int.reduceSub, Int.reduceMul, Int.reduceNeg, Int.reduceBEq, Nat.reduceAdd, Nat.reduceLT, Nat.reduceEqDiff, F16_0, F16_1, F16_2, F16_3, F16_4, P16, F19_0, P19, F9003_0, F9003_1, F9003_2, F9003_3, P9003, F9103_0, P9103, P9113, h0, h4, h5, hlt, e16, e17, e19, g0, g1, g3, g4, e1, e2, le3b, le3c, b3]
        exact key 1
      · simp (disch := omega) only [es_L3a, tt_and, tt_or, tt_not, tt_cmp, tt_lit, tt_ite, tt_var, tt_app, den_cmp, den_not, den_and, den_or, den_ite, den_lit, den_var, den_bin, den_dv, den_sh, den_conv, den_app, norm_i, norm_x, norm_b2i, nb1, nb0, i2b1, i2b0, preC, binI, dvI, shI, cmpB, env, List.map_cons, List.map_nil, List.getD_cons_succ, List.getD_cons_zero, List.getElem?_cons_zero, List.getElem?_cons_succ, i2b_b2i, F_bi, bi, List.headD, List.tail, List.map, dc_cd, List.nil_append, List.cons_append, Int.toNat_zero, Int.toNat_one, Int.toNat_natCast, Nat.zero_add, Nat.reduceAdd, por, pnand, pand, pnor, pnot, pnnot, pcond, pncond, pdec, pndec, peq, pneq, pne, pnne, pgt, pge, dcond, Int.not_lt, Int.not_le, if_true, if_false, ite_true, ite_false, true_and, and_true, false_and, and_false, true_implies, implies_true, false_implies, forall_const, not_true_eq_false, not_false_eq_true, ne_eq, reduceCtorEq, List.take_length, Ent.nm_fn, Ent.nm_pre, List.drop_zero, i64w, u8w, u16w, u32w, u64w, Int.reduceEq, Int.reduceLT, Int.reduceLE, Int.reduceToNat, Int.reduceAdd, Int.reduceSub, Int.reduceMul, Int.reduceNeg, Int.reduceBEq, Nat.reduceAdd, Nat.reduceLT, Nat.reduceEqDiff, F16_0, F16_1, F16_2, F16_3, F16_4, P16, F19_0, P19, F9003_0, F9003_1, F9003_2, F9003_3, P9003, F9103_0, P9103, P9113, h0, h4, h5, hlt, e16, e17, e19, g0, g1, g3, g4, e1, e2, le3b, le3c, b3]
        exact key 2
      · simp (disch := omega) only [es_L3a, tt_and, tt_or, tt_not, tt_cmp, tt_lit, tt_ite, tt_var, tt_app, den_cmp, den_not, den_and, den_or, den_ite, den_lit, den_var, den_bin, den_dv, den_sh, den_conv, den_app, norm_i, norm_x, norm_b2i, nb1, nb0, i2b1, i2b0, preC, binI, dvI, shI, cmpB, env, List.map_cons, List.map_nil, List.getD_cons_succ, List.getD_cons_zero, List.getElem?_cons_zero, List.getElem?_cons_succ, i2b_b2i, F_bi, bi, List.headD, List.tail, List.map, dc_cd, List.nil_append, List.cons_append, Int.toNat_zero, Int.toNat_one, Int.toNat_natCast, Nat.zero_add, Nat.reduceAdd, por, pnand, pand, pnor, pnot, pnnot, pcond, pncond, pdec, pndec, peq, pneq, pne, pnne, pgt, pge, dcond, Int.not_lt, Int.not_le, if_true, if_false, ite_true, ite_false, true_and, and_true, false_and, and_false, true_implies, implies_true, false_implies, forall_const, not_true_eq_false, not_false_eq_true, ne_eq, reduceCtorEq, List.take_length, Ent.nm_fn, Ent.nm_pre, List.drop_zero, i64w, u8w, u16w, u32w, u64w, Int.reduceEq, Int.reduceLT, Int.reduceLE, Int.reduceToNat, Int.reduceAdd, Int.reduceSub, Int.reduceMul, Int.reduceNeg, Int.reduceBEq, Nat.reduceAdd, Nat.reduceLT, Nat.reduceEqDiff, F16_0, F16_1, F16_2, F16_3, F16_4, P16, F19_0, P19, F9003_0, F9003_1, F9003_2, F9003_3, P9003, F9103_0, P9103, P9113, h0, h4, h5, hlt, e16, e17, e19, g0, g1, g3, g4, e1, e2, le3b, le3c, b3]
        exact key 3
    · have key : ∀ j, fn3a j [now, tc, mc, c, m, i] = get4 j (now, tc, mc, c) := fun j => by
        show get4 j (iterD (m - i).toNat (now, tc, mc, c)) = _
        rw [show (m - i).toNat = 0 by omega]; rfl
      refine ⟨?_, ?_, ?_, ?_, ?_, trivial⟩
      · simp (disch := omega) only [ob_L3a, tt_and, tt_or, tt_not, tt_cmp, tt_lit, tt_ite, tt_var, tt_app, den_cmp, den_not, den_and, den_or, den_ite, den_lit, den_var, den_bin, den_dv, den_sh, den_conv, den_app, norm_i, norm_x, norm_b2i, nb1, nb0, i2b1, i2b0, preC, binI, dvI, shI, cmpB, env, List.map_cons, List.map_nil, List.getD_cons_succ, List.getD_cons_zero, List.getElem?_cons_zero, List.getElem?_cons_succ, i2b_b2i, F_bi, bi, List.headD, List.tail, List.map, dc_cd, List.nil_append, List.cons_append, Int.toNat_zero, Int.toNat_one, Int.toNat_natCast, Nat.zero_add, Nat.reduceAdd, por, pnand, pand, pnor, pnot, pnnot, pcond, pncond, pdec, pndec, peq, pneq, pne, pnne, pgt, pge, dcond, Int.not_lt, Int.not_le, if_true, if_false, ite_true, ite_false, true_and, and_true, false_and, and_false, true_implies, implies_true, false_implies, forall_const, not_true_eq_false, not_false_eq_true, ne_eq, reduceCtorEq, List.take_length, Ent.nm_fn, Ent.nm_pre, List.drop_zero, i64w, u8w, u16w, u32w, u64w, Int.reduceEq, Int.reduceLT, Int.reduceLE, Int.reduceToNat, Int.reduceAdd, Int.reduceSub, Int.reduceMul, Int.reduceNeg, Int.reduceBEq, Nat.reduceAdd, Nat.reduceLT, Nat.reduceEqDiff, F16_0, F16_1, F16_2, F16_3, F16_4, P16, F19_0, P19, F9003_0, F9003_1, F9003_2, F9003_3, P9003, F9103_0, P9103, P9113, h0, h4, h5, hlt]
      · simp (disch := omega) only [es_L3a, tt_and, tt_or, tt_not, tt_cmp, tt_lit, tt_ite, tt_var, tt_app, den_cmp, den_not, den_and, den_or, den_ite, den_lit, den_var, den_bin, den_dv, den_sh, den_conv, den_app, norm_i, norm_x, norm_b2i, nb1, nb0, i2b1, i2b0, preC, binI, dvI, shI, cmpB, env, List.map_cons, List.map_nil, List.getD_cons_succ, List.getD_cons_zero, List.getElem?_cons_zero, List.getElem?_cons_succ, i2b_b2i, F_bi, bi, List.headD, List.tail, List.map, dc_cd, List.nil_append, List.cons_append, Int.toNat_zero, Int.toNat_one, Int.toNat_natCast, Nat.zero_add, Nat.reduceAdd, por, pnand, pand, pnor, pnot, pnnot, pcond, pncond, pdec, pndec, peq, pneq, pne, pnne, pgt, pge, dcond, Int.not_lt, Int.not_le, if_true, if_false, ite_true, ite_false, true_and, and_true, false_and, and_false, true_implies, implies_true, false_implies, forall_const, not_true_eq_false, not_false_eq_true, ne_eq, reduceCtorEq, List.take_length, Ent.nm_fn, Ent.nm_pre, List.drop_zero, i64w, u8w, u16w, u32w, u64w, Int.reduceEq, Int.reduceLT, Int.reduceLE, Int.reduceToNat, Int.reduceAdd, Int.reduceSub, Int.reduceMul, Int.reduceNeg, Int.reduceBEq, Nat.reduceAdd, Nat.reduceLT, Nat.reduceEqDiff, F16_0, F16_1, F16_2, F16_3, F16_4, P16, F19_0, P19, F9003_0, F9003_1, F9003_2, F9003_3, P9003, F9103_0, P9103, P9113, h0, h4, h5, hlt, e1]
        rw [key 0]; exact h0
      · simp (disch := omega) only [es_L3a, tt_and, tt_or, tt_not, tt_cmp, tt_lit, tt_ite, tt_var, tt_app, den_cmp, den_not, den_and, den_or, den_ite, den_lit, den_var, den_bin, den_dv, den_sh, den_conv, den_app, norm_i, norm_x, norm_b2i, nb1, nb0, i2b1, i2b0, preC, binI, dvI, shI, cmpB, env, List.map_cons, List.map_nil, List.getD_cons_succ, List.getD_cons_zero, List.getElem?_cons_zero, List.getElem?_cons_succ, i2b_b2i, F_bi, bi, List.headD, List.tail, List.map, dc_cd, List.nil_append, List.cons_append, Int.toNat_zero, Int.toNat_one, Int.toNat_natCast, Nat.zero_add, Nat.reduceAdd, por, pnand, pand, pnor, pnot, pnnot, pcond, pncond, pdec, pndec, peq, pneq, pne, pnne, pgt, pge, dcond, Int.not_lt, Int.not_le, if_true, if_false, ite_true, ite_false, true_and, and_true, false_and, and_false, true_implies, implies_true, false_implies, forall_const, not_true_eq_false, not_false_eq_true, ne_eq, reduceCtorEq, List.take_length, Ent.nm_fn, Ent.nm_pre, List.drop_zero, i64w, u8w, u16w, u32w, u64w, Int.reduceEq, Int.reduceLT, Int.reduceLE, Int.reduceToNat, Int.reduceAdd, Int.reduceSub, Int.reduceMul, Int.reduceNeg, Int.reduceBEq, Nat.reduceAdd, Nat.reduceLT, Nat.reduceEqDiff, F16_0, F16_1, F16_2, F16_3, F16_4, P16, F19_0, P19, F9003_0, F9003_1, F9003_2, F9003_3, P9003, F9103_0, P9103, P9113, h0, h4, h5, hlt, e1]
        exact key 1
      · simp (disch := omega) only [es_L3a, tt_and, tt_or, tt_not, tt_cmp, tt_lit, tt_ite, tt_var, tt_app, den_cmp, den_not, den_and, den_or, den_ite, den_lit, den_var, den_bin, den_dv, den_sh, den_conv, den_app, norm_i, norm_x, norm_b2i, nb1, nb0, i2b1, i2b0, preC, binI, dvI, shI, cmpB, env, List.map_cons, List.map_nil, List.getD_cons_succ, List.getD_cons_zero, List.getElem?_cons_zero, List.getElem?_cons_succ, i2b_b2i, F_bi, bi, List.headD, List.tail, List.map, dc_cd, List.nil_append, List.cons_append, Int.toNat_zero, Int.toNat_one, Int.toNat_natCast, Nat.zero_add, Nat.reduceAdd, por, pnand, pand, pnor, pnot, pnnot, pcond, pncond, pdec, pndec, peq, pneq, pne, pnne, pgt, pge, dcond, Int.not_lt, Int.not_le, if_true, if_false, ite_true, ite_false, true_and, and_true, false_and, and_false, true_implies, implies_true, false_implies, forall_const, not_true_eq_false, not_false_eq_true, ne_eq, reduceCtorEq, List.take_length, Ent.nm_fn, Ent.nm_pre, List.drop_zero, i64w, u8w, u16w, u32w, u64w, Int.reduceEq, Int.reduceLT, Int.reduceLE, Int.reduceToNat, Int.reduceAdd, Int.reduceSub, Int.reduceMul, Int.reduceNeg, Int.reduceBEq, Nat.reduceAdd, Nat.reduceLT, Nat.reduceEqDiff, F16_0, F16_1, F16_2, F16_3, F16_4, P16, F19_0, P19, F9003_0, F9003_1, F9003_2, F9003_3, P9003, F9103_0, P9103, P9113, h0, h4, h5, hlt, e1]
        exact key 2
      · simp (disch := omega) only [es_L3a, tt_and, tt_or, tt_not, tt_cmp, tt_lit, tt_ite, tt_var, tt_app, den_cmp, den_not, den_and, den_or, den_ite, den_lit, den_var, den_bin, den_dv, den_sh, den_conv, den_app, norm_i, norm_x, norm_b2i, nb1, nb0, i2b1, i2b0, preC, binI, dvI, shI, cmpB, env, List.map_cons, List.map_nil, List.getD_cons_succ, List.getD_cons_zero, List.getElem?_cons_zero, List.getElem?_cons_succ, i2b_b2i, F_bi, bi, List.headD, List.tail, List.map, dc_cd, List.nil_append, List.cons_append, Int.toNat_zero, Int.toNat_one, Int.toNat_natCast, Nat.zero_add, Nat.reduceAdd, por, pnand, pand, pnor, pnot, pnnot, pcond, pncond, pdec, pndec, peq, pneq, pne, pnne, pgt, pge, dcond, Int.not_lt, Int.not_le, if_true, if_false, ite_true, ite_false, true_and, and_true, false_and, and_false, true_implies, implies_true, false_implies, forall_const, not_true_eq_false, not_false_eq_true, ne_eq, reduceCtorEq, List.take_length, Ent.nm_fn, Ent.nm_pre, List.drop_zero, i64w, u8w, u16w, u32w, u64w, Int.reduceEq, Int.reduceLT, Int.reduceLE, Int.reduceToNat, Int.reduceAdd, Int.reduceSub, Int.reduceMul, Int.reduceNeg, Int.reduceBEq, Nat.reduceAdd, Nat.reduceLT, Nat.reduceEqDiff, F16_0, F16_1, F16_2, F16_3, F16_4, P16, F19_0, P19, F9003_0, F9003_1, F9003_2, F9003_3, P9003, F9103_0, P9103, P9113, h0, h4, h5, hlt, e1]
        exact key 3

theorem iterD_ok : ∀ {k : Nat} {now tc mc c : Int}, QI now (dc tc) (dc mc) → dc c = dc tc → now + (k : Int) ≤ 1099511627776 → QI (iterD k (now, tc, mc, c)).1 (dc (iterD k (now, tc, mc, c)).2.1) (dc (iterD k (now, tc, mc, c)).2.2.1) ∧ dc (iterD k (now, tc, mc, c)).2.2.2 = dc (iterD k (now, tc, mc, c)).2.1 ∧ (iterD k (now, tc, mc, c)).1 = now + (k : Int)
  | 0, now, tc, mc, c, h, hc, hb => ⟨h, hc, by simp [iterD]⟩
  | k + 1, now, tc, mc, c, h, hc, hb => by
    obtain ⟨g0, g1, g3, g4, hq⟩ := tick_out h (by omega)
    have e : stepD (now, tc, mc, c) = (now + 1, cd ((dc tc).drop (cntE (now + 1) (dc tc))), fn16 2 [now, tc, mc], cd ((dc tc).drop (cntE (now + 1) (dc tc)))) := by
      simp only [stepD, g0, g1, hc]
    have := iterD_ok (k := k) (now := now + 1) (tc := cd ((dc tc).drop (cntE (now + 1) (dc tc)))) (mc := fn16 2 [now, tc, mc]) (c := cd ((dc tc).drop (cntE (now + 1) (dc tc)))) (by rw [dc_cd]; exact hq) rfl (by omega)
    simp only [iterD, e]
    exact ⟨this.1, this.2.1, by rw [this.2.2]; omega⟩

theorem c3ok' : cQ3.OK Try.prog G0 := by
  have h1 : Ctx.OK Try.prog G0 ⟨e12 :: cE.fs, []⟩ := cEok.addF ok12 rfl
  have h2 : Ctx.OK Try.prog G0 ⟨e15 :: e13 :: e12 :: cE.fs, []⟩ := (h1.addF ok13 rfl).addF ok15 rfl
  exact (h2.addL lo3a rfl).sub rfl (by simp [cQ3, cE]) (by simp [cQ3])

set_option maxHeartbeats 4000000 in
theorem ok3 : EntryOK Try.prog G0 e3 := c3ok'.entryP mixed ev_3 _ rfl _ rfl fun xs hf hp => by
  obtain ⟨l, hl, hF⟩ := ctx_P (l0 := cQ3.l)
  show ob_3.tt cQ3.l.F _ = true ∧ outsP e3.fn _ cQ3.l.F _ _ _ _
  rw [hl]
  have P12 := (hF e12 (by rfl) (by decide)).2
  replace P12 : ∀ xs, (i2b (K.b.norm (l.F 12 1000000 xs)) = true) = _ := P12
  have F13_0 : ∀ xs, l.F 13 0 xs = e13.fn 0 xs := (hF e13 (by rfl) (by decide)).1 0 rfl
  have F13_1 : ∀ xs, l.F 13 1 xs = e13.fn 1 xs := (hF e13 (by rfl) (by decide)).1 1 rfl
  have F13_2 : ∀ xs, l.F 13 2 xs = e13.fn 2 xs := (hF e13 (by rfl) (by decide)).1 2 rfl
  have P13 := (hF e13 (by rfl) (by decide)).2
  replace P13 : ∀ xs, (i2b (K.b.norm (l.F 13 1000000 xs)) = true) = _ := P13
  have F14_0 : ∀ xs, l.F 14 0 xs = e14.fn 0 xs := (hF e14 (by rfl) (by decide)).1 0 rfl
  have P14 := (hF e14 (by rfl) (by decide)).2
  replace P14 : ∀ xs, (i2b (K.b.norm (l.F 14 1000000 xs)) = true) = _ := P14
  have F15_0 : ∀ xs, l.F 15 0 xs = e15.fn 0 xs := (hF e15 (by rfl) (by decide)).1 0 rfl
  have P15 := (hF e15 (by rfl) (by decide)).2
  replace P15 : ∀ xs, (i2b (K.b.norm (l.F 15 1000000 xs)) = true) = _ := P15
  have F18_0 : ∀ xs, l.F 18 0 xs = e18.fn 0 xs := (hF e18 (by rfl) (by decide)).1 0 rfl
  have P18 := (hF e18 (by rfl) (by decide)).2
  replace P18 : ∀ xs, (i2b (K.b.norm (l.F 18 1000000 xs)) = true) = _ := P18
  have F9003_0 : ∀ xs, l.F 9003 0 xs = le3a.ent.fn 0 xs := (hF le3a.ent (by rfl) (by decide)).1 0 rfl
  have F9003_1 : ∀ xs, l.F 9003 1 xs = le3a.ent.fn 1 xs := (hF le3a.ent (by rfl) (by decide)).1 1 rfl
  have F9003_2 : ∀ xs, l.F 9003 2 xs = le3a.ent.fn 2 xs := (hF le3a.ent (by rfl) (by decide)).1 2 rfl
  have F9003_3 : ∀ xs, l.F 9003 3 xs = le3a.ent.fn 3 xs := (hF le3a.ent (by rfl) (by decide)).1 3 rfl
  have P9003 := (hF le3a.ent (by rfl) (by decide)).2
  replace P9003 : ∀ xs, (i2b (K.b.norm (l.F 9003 1000000 xs)) = true) = _ := P9003
  match xs, hf with
  | [t, c, k], hf =>
    obtain ⟨h0, h1, h2, _⟩ := hf
    simp only [norm_i, norm_x] at h0 h2
    obtain ⟨p1, p2⟩ := hp
    simp only [tt_and, tt_or, tt_not, tt_cmp, tt_lit, tt_ite, tt_var, tt_app, den_cmp, den_not, den_and, den_or, den_ite, den_lit, den_var, den_bin, den_dv, den_sh, den_conv, den_app, norm_i, norm_x, norm_b2i, nb1, nb0, i2b1, i2b0, preC, binI, dvI, shI, cmpB, env, List.map_cons, List.map_nil, List.getD_cons_succ, List.getD_cons_zero, List.getElem?_cons_zero, List.getElem?_cons_succ, i2b_b2i, F_bi, bi, List.headD, List.tail, List.map, dc_cd, List.nil_append, List.cons_append, Int.toNat_zero, Int.toNat_one, Int.toNat_natCast, Nat.zero_add, Nat.reduceAdd] at p1 p2
    refine ⟨?_, trivial⟩
    obtain ⟨q1, q2, q3⟩ := madM_ok t (dc c)
    have ht := q1.tim
    have x0 : fn13 0 [t, c] = (madM t (dc c)).1 := rfl
    have x1 : fn13 1 [t, c] = (madM t (dc c)).2.1 := rfl
    have x2 : fn13 2 [t, c] = (madM t (dc c)).2.2 := rfl
    rcases hq : madM t (dc c) with ⟨now, tc, mc⟩
    rw [hq] at q1 q2 q3 ht x0 x1 x2
    simp only at q1 q2 q3 ht x0 x1 x2
    simp (disch := omega) only [ob_3, tt_and, tt_or, tt_not, tt_cmp, tt_lit, tt_ite, tt_var, tt_app, den_cmp, den_not, den_and, den_or, den_ite, den_lit, den_var, den_bin, den_dv, den_sh, den_conv, den_app, norm_i, norm_x, norm_b2i, nb1, nb0, i2b1, i2b0, preC, binI, dvI, shI, cmpB, env, List.map_cons, List.map_nil, List.getD_cons_succ, List.getD_cons_zero, List.getElem?_cons_zero, List.getElem?_cons_succ, i2b_b2i, F_bi, bi, List.headD, List.tail, List.map, dc_cd, List.nil_append, List.cons_append, Int.toNat_zero, Int.toNat_one, Int.toNat_natCast, Nat.zero_add, Nat.reduceAdd, por, pnand, pand, pnor, pnot, pnnot, pcond, pncond, pdec, pndec, peq, pneq, pne, pnne, pgt, pge, dcond, Int.not_lt, Int.not_le, if_true, if_false, ite_true, ite_false, true_and, and_true, false_and, and_false, true_implies, implies_true, false_implies, forall_const, not_true_eq_false, not_false_eq_true, ne_eq, reduceCtorEq, List.take_length, Ent.nm_fn, Ent.nm_pre, List.drop_zero, i64w, u8w, u16w, u32w, u64w, Int.reduceEq, Int.reduceLT, Int.reduceLE, Int.reduceToNat, Int.reduceAdd, Int.reduceSub, Int.reduceMul, Int.reduceNeg, Int.reduceBEq, Nat.reduceAdd, Nat.reduceLT, Nat.reduceEqDiff, P12, F13_0, F13_1, F13_2, P13, F14_0, P14, F15_0, P15, F18_0, P18, F9003_0, F9003_1, F9003_2, F9003_3, P9003, h0, h2, e12, e13, e14, e15, e18, le3a, x0, x1, x2]
    have hk : 0 ≤ k % 700 ∧ k % 700 < 700 := by omega
    obtain ⟨r1, r2, r3⟩ := iterD_ok (k := (k % 700 - 0).toNat) q1 (c := tc) rfl (by omega)
    have hl := r1.len
    have hw := r1.tim
    have g : ∀ j, fn3a j [now, tc, mc, tc, k % 700, 0] = get4 j (iterD (k % 700 - 0).toNat (now, tc, mc, tc)) := fun j => rfl
    rw [g 0, g 1, g 2, g 3]
    generalize iterD (k % 700 - 0).toNat (now, tc, mc, tc) = q at *
    obtain ⟨n', t', m', w'⟩ := q
    simp only [get4] at *
    have hw' : IntKind.i64.wrap n' = n' := i64w (by omega) (by omega)
    have hll : ((dc t').length : Int) < cap8 := by unfold cap8; omega
    rw [hw', r2, beq_self_eq_true]
    exact ⟨⟨⟨p1, p2⟩, q1, ⟨q1, rfl, by show (0 : Int) ≤ 0; omega, by show (0 : Int) ≤ k % 700; omega, by show now + (k % 700 - 0) ≤ 1099511627776; omega⟩, r1, ⟨hll, by show ((dc w').length : Int) < cap8; rw [r2]; exact hll, r1.row, by show rowsOK tmK (dc w'); rw [r2]; exact r1.row⟩⟩, rfl⟩

end
end Go.Proofs.Ytmolkkphnehgcaa.Ew
