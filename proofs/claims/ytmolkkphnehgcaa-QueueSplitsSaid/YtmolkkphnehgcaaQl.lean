/- Layer 17: queues after some acts. -/
import Derived.Test.YtmolkkphnehgcaaQk
import Derived.Test.YtmolkkphnehgcaaWp
set_option linter.unusedVariables false
set_option linter.unusedSimpArgs false
namespace Go.Proofs.Ytmolkkphnehgcaa.Ew
open Go Go.RowKit
noncomputable section
--P Try.prog G0

def actK : List K := [.i .u8, .i .i64, .i .i64]
def acts : Sh := .lst 51 (Row.ofKs actK) false
/-- One act: what it makes of time, timers, map. -/
def stepM (r : List Int) (q : Int × Int × Int) : Int × Int × Int :=
  if (r.getD 0 0).tmod 8 = 4 then (q.1, fn22 1 [q.1, q.2.1, q.2.2, r.getD 1 0 % 16], fn22 2 [q.1, q.2.1, q.2.2, r.getD 1 0 % 16])
  else if (r.getD 0 0).tmod 8 = 5 then (fn16 0 [q.1, q.2.1, q.2.2], fn16 1 [q.1, q.2.1, q.2.2], fn16 2 [q.1, q.2.1, q.2.2])
  else if (r.getD 0 0).tmod 8 = 6 then (fn24 0 [q.1, q.2.1, q.2.2, q.1 + r.getD 2 0 % 600], fn24 1 [q.1, q.2.1, q.2.2, q.1 + r.getD 2 0 % 600], fn24 2 [q.1, q.2.1, q.2.2, q.1 + r.getD 2 0 % 600])
  else (q.1, fn21 1 [q.1, q.2.1, q.2.2, r.getD 1 0 % 16, q.1 + 1 + r.getD 2 0 % 600], fn21 2 [q.1, q.2.1, q.2.2, r.getD 1 0 % 16, q.1 + 1 + r.getD 2 0 % 600])
def runM (l : RL) (q : Int × Int × Int) : Int × Int × Int := l.foldl (fun q r => stepM r q) q
/-- What queues that were made have. -/
def MI (b : Int) (q : Int × Int × Int) : Prop := QI q.1 (dc q.2.1) (dc q.2.2) ∧ q.1 ≤ b ∧ ∀ r ∈ dc q.2.1, idR r < 16 ∧ dlR r ≤ q.1 + 600
def fnL13 : Nat → List Int → Int
  | 0, xs => (runM ((dc (env xs 3)).drop (env xs 5).toNat) (env xs 0, env xs 1, env xs 2)).1
  | 1, xs => (runM ((dc (env xs 3)).drop (env xs 5).toNat) (env xs 0, env xs 1, env xs 2)).2.1
  | _, xs => (runM ((dc (env xs 3)).drop (env xs 5).toNat) (env xs 0, env xs 1, env xs 2)).2.2
/-- Room to the end of time: 600 for each act that is left. -/
def preL13 (xs : List Int) : Prop := QIx xs ∧ rowsOK actK (dc (env xs 3)) ∧ env xs 4 = ((dc (env xs 3)).length : Int) ∧ 0 ≤ env xs 5 ∧ env xs 5 ≤ env xs 4 ∧ env xs 4 ≤ 60 ∧ env xs 0 + 600 * (env xs 4 - env xs 5) ≤ 1099511627776 ∧ ∀ r ∈ dc (env xs 1), idR r < 16 ∧ dlR r ≤ env xs 0 + 600
def le13 : LEnt := ⟨⟨9013, 999999, [.nul .nP, .lt .b 0, qo, acts, i64, i64], [qob], [3], .tup [], fnL13, preL13⟩, [4, 5, 6, 29, 30, 31], [], [4, 5, 9, 10, 11, 12] ++ (List.range 50).map (· + 31), [.ex 0], 81, [29]⟩
def mu13 (xs : List Int) : Nat := (env xs 4 - env xs 5).toNat
def cC : Ctx := ⟨[e22, e16, e17, e24, e21, e15], []⟩

def iniM (t : Int) : Int × Int × Int := (t % 1099511496704, cd [], cd [])
def madM (t : Int) (l : RL) : Int × Int × Int := runM (l.take 60) (iniM t)
def fn13 : Nat → List Int → Int
  | 0, xs => (madM (env xs 0) (dc (env xs 1))).1
  | 1, xs => (madM (env xs 0) (dc (env xs 1))).2.1
  | _, xs => (madM (env xs 0) (dc (env xs 1))).2.2
def e13 : Ent := ⟨13, 13, [i64, acts], [], [0], .tup [qo, .lt .b 1], fn13, fun xs => rowsOK actK (dc (env xs 1)) ∧ ((dc (env xs 1)).length : Int) ≤ 9223372036854775807⟩
def cD : Ctx := ⟨[e20, e15], [(13, [true,true,true,false,true,false], le13)]⟩

def ob_L13 : E := (.and (.and (.or (.not (.cmp .lss (.var (.i .i64) 5) (.var (.i .i64) 4))) (.and (.and (.cmp .geq (.var (.i .i64) 5) (.lit (.i .i64) 0)) (.cmp .lss (.var (.i .i64) 5) (.app (.i .i64) 0 0 [(.var .x 3)]))) (.and (.and (.app .b 15 1000000 [(.app (.i .i64) 0 1 [(.var .x 3), (.var (.i .i64) 5), (.lit .x 1)]), (.lit (.i .i64) 16)]) (.app .b 15 1000000 [(.app (.i .i64) 0 1 [(.var .x 3), (.var (.i .i64) 5), (.lit .x 2)]), (.lit (.i .i64) 600)])) (.and (.or (.not (.cmp .eql (.dv .rem .u8 (.app (.i .u8) 0 1 [(.var .x 3), (.var (.i .i64) 5), (.lit .x 0)]) 8) (.lit (.i .u8) 4))) (.app .b 22 1000000 [(.var (.i .i64) 0), (.var .x 1), (.var .x 2), (.app (.i .i64) 15 0 [(.app (.i .i64) 0 1 [(.var .x 3), (.var (.i .i64) 5), (.lit .x 1)]), (.lit (.i .i64) 16)])])) (.or (.cmp .eql (.dv .rem .u8 (.app (.i .u8) 0 1 [(.var .x 3), (.var (.i .i64) 5), (.lit .x 0)]) 8) (.lit (.i .u8) 4)) (.and (.or (.not (.cmp .eql (.dv .rem .u8 (.app (.i .u8) 0 1 [(.var .x 3), (.var (.i .i64) 5), (.lit .x 0)]) 8) (.lit (.i .u8) 5))) (.app .b 16 1000000 [(.var (.i .i64) 0), (.var .x 1), (.var .x 2)])) (.or (.cmp .eql (.dv .rem .u8 (.app (.i .u8) 0 1 [(.var .x 3), (.var (.i .i64) 5), (.lit .x 0)]) 8) (.lit (.i .u8) 5)) (.and (.or (.not (.cmp .eql (.dv .rem .u8 (.app (.i .u8) 0 1 [(.var .x 3), (.var (.i .i64) 5), (.lit .x 0)]) 8) (.lit (.i .u8) 6))) (.and (.app .b 17 1000000 [(.var (.i .i64) 0), (.var .x 1), (.var .x 2)]) (.app .b 24 1000000 [(.var (.i .i64) 0), (.var .x 1), (.var .x 2), (.bin .add .i64 (.app (.i .i64) 17 0 [(.var (.i .i64) 0), (.var .x 1), (.var .x 2)]) (.app (.i .i64) 15 0 [(.app (.i .i64) 0 1 [(.var .x 3), (.var (.i .i64) 5), (.lit .x 2)]), (.lit (.i .i64) 600)]))]))) (.or (.cmp .eql (.dv .rem .u8 (.app (.i .u8) 0 1 [(.var .x 3), (.var (.i .i64) 5), (.lit .x 0)]) 8) (.lit (.i .u8) 6)) (.and (.app .b 17 1000000 [(.var (.i .i64) 0), (.var .x 1), (.var .x 2)]) (.app .b 21 1000000 [(.var (.i .i64) 0), (.var .x 1), (.var .x 2), (.app (.i .i64) 15 0 [(.app (.i .i64) 0 1 [(.var .x 3), (.var (.i .i64) 5), (.lit .x 1)]), (.lit (.i .i64) 16)]), (.bin .add .i64 (.bin .add .i64 (.app (.i .i64) 17 0 [(.var (.i .i64) 0), (.var .x 1), (.var .x 2)]) (.lit (.i .i64) 1)) (.app (.i .i64) 15 0 [(.app (.i .i64) 0 1 [(.var .x 3), (.var (.i .i64) 5), (.lit .x 2)]), (.lit (.i .i64) 600)]))]))))))))))) (.or (.not (.and (.cmp .lss (.var (.i .i64) 5) (.var (.i .i64) 4)) (.not (.cmp .neq (.ite (.cmp .eql (.dv .rem .u8 (.app (.i .u8) 0 1 [(.var .x 3), (.var (.i .i64) 5), (.lit .x 0)]) 8) (.lit (.i .u8) 4)) (.ite (.cmp .eql (.app (.i .i64) 22 3 [(.var (.i .i64) 0), (.var .x 1), (.var .x 2), (.app (.i .i64) 15 0 [(.app (.i .i64) 0 1 [(.var .x 3), (.var (.i .i64) 5), (.lit .x 1)]), (.lit (.i .i64) 16)])]) (.lit (.i .i64) 6)) (.lit (.i .i64) 0) (.app (.i .i64) 22 3 [(.var (.i .i64) 0), (.var .x 1), (.var .x 2), (.app (.i .i64) 15 0 [(.app (.i .i64) 0 1 [(.var .x 3), (.var (.i .i64) 5), (.lit .x 1)]), (.lit (.i .i64) 16)])])) (.ite (.cmp .eql (.dv .rem .u8 (.app (.i .u8) 0 1 [(.var .x 3), (.var (.i .i64) 5), (.lit .x 0)]) 8) (.lit (.i .u8) 5)) (.app (.i .i64) 16 4 [(.var (.i .i64) 0), (.var .x 1), (.var .x 2)]) (.ite (.cmp .eql (.dv .rem .u8 (.app (.i .u8) 0 1 [(.var .x 3), (.var (.i .i64) 5), (.lit .x 0)]) 8) (.lit (.i .u8) 6)) (.app (.i .i64) 24 4 [(.var (.i .i64) 0), (.var .x 1), (.var .x 2), (.bin .add .i64 (.app (.i .i64) 17 0 [(.var (.i .i64) 0), (.var .x 1), (.var .x 2)]) (.app (.i .i64) 15 0 [(.app (.i .i64) 0 1 [(.var .x 3), (.var (.i .i64) 5), (.lit .x 2)]), (.lit (.i .i64) 600)]))]) (.app (.i .i64) 21 3 [(.var (.i .i64) 0), (.var .x 1), (.var .x 2), (.app (.i .i64) 15 0 [(.app (.i .i64) 0 1 [(.var .x 3), (.var (.i .i64) 5), (.lit .x 1)]), (.lit (.i .i64) 16)]), (.bin .add .i64 (.bin .add .i64 (.app (.i .i64) 17 0 [(.var (.i .i64) 0), (.var .x 1), (.var .x 2)]) (.lit (.i .i64) 1)) (.app (.i .i64) 15 0 [(.app (.i .i64) 0 1 [(.var .x 3), (.var (.i .i64) 5), (.lit .x 2)]), (.lit (.i .i64) 600)]))])))) (.lit (.i .i64) 0))))) (.and (.ite (.cmp .eql (.dv .rem .u8 (.app (.i .u8) 0 1 [(.var .x 3), (.var (.i .i64) 5), (.lit .x 0)]) 8) (.lit (.i .u8) 4)) (.cmp .eql (.dv .rem .u8 (.app (.i .u8) 0 1 [(.var .x 3), (.var (.i .i64) 5), (.lit .x 0)]) 8) (.lit (.i .u8) 4)) (.ite (.cmp .eql (.dv .rem .u8 (.app (.i .u8) 0 1 [(.var .x 3), (.var (.i .i64) 5), (.lit .x 0)]) 8) (.lit (.i .u8) 5)) (.and (.not (.cmp .eql (.dv .rem .u8 (.app (.i .u8) 0 1 [(.var .x 3), (.var (.i .i64) 5), (.lit .x 0)]) 8) (.lit (.i .u8) 4))) (.cmp .eql (.dv .rem .u8 (.app (.i .u8) 0 1 [(.var .x 3), (.var (.i .i64) 5), (.lit .x 0)]) 8) (.lit (.i .u8) 5))) (.ite (.cmp .eql (.dv .rem .u8 (.app (.i .u8) 0 1 [(.var .x 3), (.var (.i .i64) 5), (.lit .x 0)]) 8) (.lit (.i .u8) 6)) (.and (.not (.cmp .eql (.dv .rem .u8 (.app (.i .u8) 0 1 [(.var .x 3), (.var (.i .i64) 5), (.lit .x 0)]) 8) (.lit (.i .u8) 4))) (.and (.not (.cmp .eql (.dv .rem .u8 (.app (.i .u8) 0 1 [(.var .x 3), (.var (.i .i64) 5), (.lit .x 0)]) 8) (.lit (.i .u8) 5))) (.cmp .eql (.dv .rem .u8 (.app (.i .u8) 0 1 [(.var .x 3), (.var (.i .i64) 5), (.lit .x 0)]) 8) (.lit (.i .u8) 6)))) (.and (.not (.cmp .eql (.dv .rem .u8 (.app (.i .u8) 0 1 [(.var .x 3), (.var (.i .i64) 5), (.lit .x 0)]) 8) (.lit (.i .u8) 4))) (.and (.not (.cmp .eql (.dv .rem .u8 (.app (.i .u8) 0 1 [(.var .x 3), (.var (.i .i64) 5), (.lit .x 0)]) 8) (.lit (.i .u8) 5))) (.not (.cmp .eql (.dv .rem .u8 (.app (.i .u8) 0 1 [(.var .x 3), (.var (.i .i64) 5), (.lit .x 0)]) 8) (.lit (.i .u8) 6)))))))) (.app .b 9013 1000000 [(.ite (.cmp .eql (.dv .rem .u8 (.app (.i .u8) 0 1 [(.var .x 3), (.var (.i .i64) 5), (.lit .x 0)]) 8) (.lit (.i .u8) 4)) (.app (.i .i64) 22 0 [(.var (.i .i64) 0), (.var .x 1), (.var .x 2), (.app (.i .i64) 15 0 [(.app (.i .i64) 0 1 [(.var .x 3), (.var (.i .i64) 5), (.lit .x 1)]), (.lit (.i .i64) 16)])]) (.ite (.cmp .eql (.dv .rem .u8 (.app (.i .u8) 0 1 [(.var .x 3), (.var (.i .i64) 5), (.lit .x 0)]) 8) (.lit (.i .u8) 5)) (.app (.i .i64) 16 0 [(.var (.i .i64) 0), (.var .x 1), (.var .x 2)]) (.ite (.cmp .eql (.dv .rem .u8 (.app (.i .u8) 0 1 [(.var .x 3), (.var (.i .i64) 5), (.lit .x 0)]) 8) (.lit (.i .u8) 6)) (.app (.i .i64) 24 0 [(.var (.i .i64) 0), (.var .x 1), (.var .x 2), (.bin .add .i64 (.app (.i .i64) 17 0 [(.var (.i .i64) 0), (.var .x 1), (.var .x 2)]) (.app (.i .i64) 15 0 [(.app (.i .i64) 0 1 [(.var .x 3), (.var (.i .i64) 5), (.lit .x 2)]), (.lit (.i .i64) 600)]))]) (.app (.i .i64) 21 0 [(.var (.i .i64) 0), (.var .x 1), (.var .x 2), (.app (.i .i64) 15 0 [(.app (.i .i64) 0 1 [(.var .x 3), (.var (.i .i64) 5), (.lit .x 1)]), (.lit (.i .i64) 16)]), (.bin .add .i64 (.bin .add .i64 (.app (.i .i64) 17 0 [(.var (.i .i64) 0), (.var .x 1), (.var .x 2)]) (.lit (.i .i64) 1)) (.app (.i .i64) 15 0 [(.app (.i .i64) 0 1 [(.var .x 3), (.var (.i .i64) 5), (.lit .x 2)]), (.lit (.i .i64) 600)]))])))), (.ite (.cmp .eql (.dv .rem .u8 (.app (.i .u8) 0 1 [(.var .x 3), (.var (.i .i64) 5), (.lit .x 0)]) 8) (.lit (.i .u8) 4)) (.app .x 22 1 [(.var (.i .i64) 0), (.var .x 1), (.var .x 2), (.app (.i .i64) 15 0 [(.app (.i .i64) 0 1 [(.var .x 3), (.var (.i .i64) 5), (.lit .x 1)]), (.lit (.i .i64) 16)])]) (.ite (.cmp .eql (.dv .rem .u8 (.app (.i .u8) 0 1 [(.var .x 3), (.var (.i .i64) 5), (.lit .x 0)]) 8) (.lit (.i .u8) 5)) (.app .x 16 1 [(.var (.i .i64) 0), (.var .x 1), (.var .x 2)]) (.ite (.cmp .eql (.dv .rem .u8 (.app (.i .u8) 0 1 [(.var .x 3), (.var (.i .i64) 5), (.lit .x 0)]) 8) (.lit (.i .u8) 6)) (.app .x 24 1 [(.var (.i .i64) 0), (.var .x 1), (.var .x 2), (.bin .add .i64 (.app (.i .i64) 17 0 [(.var (.i .i64) 0), (.var .x 1), (.var .x 2)]) (.app (.i .i64) 15 0 [(.app (.i .i64) 0 1 [(.var .x 3), (.var (.i .i64) 5), (.lit .x 2)]), (.lit (.i .i64) 600)]))]) (.app .x 21 1 [(.var (.i .i64) 0), (.var .x 1), (.var .x 2), (.app (.i .i64) 15 0 [(.app (.i .i64) 0 1 [(.var .x 3), (.var (.i .i64) 5), (.lit .x 1)]), (.lit (.i .i64) 16)]), (.bin .add .i64 (.bin .add .i64 (.app (.i .i64) 17 0 [(.var (.i .i64) 0), (.var .x 1), (.var .x 2)]) (.lit (.i .i64) 1)) (.app (.i .i64) 15 0 [(.app (.i .i64) 0 1 [(.var .x 3), (.var (.i .i64) 5), (.lit .x 2)]), (.lit (.i .i64) 600)]))])))), (.ite (.cmp .eql (.dv .rem .u8 (.app (.i .u8) 0 1 [(.var .x 3), (.var (.i .i64) 5), (.lit .x 0)]) 8) (.lit (.i .u8) 4)) (.app .x 22 2 [(.var (.i .i64) 0), (.var .x 1), (.var .x 2), (.app (.i .i64) 15 0 [(.app (.i .i64) 0 1 [(.var .x 3), (.var (.i .i64) 5), (.lit .x 1)]), (.lit (.i .i64) 16)])]) (.ite (.cmp .eql (.dv .rem .u8 (.app (.i .u8) 0 1 [(.var .x 3), (.var (.i .i64) 5), (.lit .x 0)]) 8) (.lit (.i .u8) 5)) (.app .x 16 2 [(.var (.i .i64) 0), (.var .x 1), (.var .x 2)]) (.ite (.cmp .eql (.dv .rem .u8 (.app (.i .u8) 0 1 [(.var .x 3), (.var (.i .i64) 5), (.lit .x 0)]) 8) (.lit (.i .u8) 6)) (.app .x 24 2 [(.var (.i .i64) 0), (.var .x 1), (.var .x 2), (.bin .add .i64 (.app (.i .i64) 17 0 [(.var (.i .i64) 0), (.var .x 1), (.var .x 2)]) (.app (.i .i64) 15 0 [(.app (.i .i64) 0 1 [(.var .x 3), (.var (.i .i64) 5), (.lit .x 2)]), (.lit (.i .i64) 600)]))]) (.app .x 21 2 [(.var (.i .i64) 0), (.var .x 1), (.var .x 2), (.app (.i .i64) 15 0 [(.app (.i .i64) 0 1 [(.var .x 3), (.var (.i .i64) 5), (.lit .x 1)]), (.lit (.i .i64) 16)]), (.bin .add .i64 (.bin .add .i64 (.app (.i .i64) 17 0 [(.var (.i .i64) 0), (.var .x 1), (.var .x 2)]) (.lit (.i .i64) 1)) (.app (.i .i64) 15 0 [(.app (.i .i64) 0 1 [(.var .x 3), (.var (.i .i64) 5), (.lit .x 2)]), (.lit (.i .i64) 600)]))])))), (.var .x 3), (.var (.i .i64) 4), (.bin .add .i64 (.var (.i .i64) 5) (.lit (.i .i64) 1))])))) (.and (.or (.not (.or (.not (.cmp .lss (.var (.i .i64) 5) (.var (.i .i64) 4))) (.and (.cmp .lss (.var (.i .i64) 5) (.var (.i .i64) 4)) (.not (.cmp .neq (.ite (.cmp .eql (.dv .rem .u8 (.app (.i .u8) 0 1 [(.var .x 3), (.var (.i .i64) 5), (.lit .x 0)]) 8) (.lit (.i .u8) 4)) (.ite (.cmp .eql (.app (.i .i64) 22 3 [(.var (.i .i64) 0), (.var .x 1), (.var .x 2), (.app (.i .i64) 15 0 [(.app (.i .i64) 0 1 [(.var .x 3), (.var (.i .i64) 5), (.lit .x 1)]), (.lit (.i .i64) 16)])]) (.lit (.i .i64) 6)) (.lit (.i .i64) 0) (.app (.i .i64) 22 3 [(.var (.i .i64) 0), (.var .x 1), (.var .x 2), (.app (.i .i64) 15 0 [(.app (.i .i64) 0 1 [(.var .x 3), (.var (.i .i64) 5), (.lit .x 1)]), (.lit (.i .i64) 16)])])) (.ite (.cmp .eql (.dv .rem .u8 (.app (.i .u8) 0 1 [(.var .x 3), (.var (.i .i64) 5), (.lit .x 0)]) 8) (.lit (.i .u8) 5)) (.app (.i .i64) 16 4 [(.var (.i .i64) 0), (.var .x 1), (.var .x 2)]) (.ite (.cmp .eql (.dv .rem .u8 (.app (.i .u8) 0 1 [(.var .x 3), (.var (.i .i64) 5), (.lit .x 0)]) 8) (.lit (.i .u8) 6)) (.app (.i .i64) 24 4 [(.var (.i .i64) 0), (.var .x 1), (.var .x 2), (.bin .add .i64 (.app (.i .i64) 17 0 [(.var (.i .i64) 0), (.var .x 1), (.var .x 2)]) (.app (.i .i64) 15 0 [(.app (.i .i64) 0 1 [(.var .x 3), (.var (.i .i64) 5), (.lit .x 2)]), (.lit (.i .i64) 600)]))]) (.app (.i .i64) 21 3 [(.var (.i .i64) 0), (.var .x 1), (.var .x 2), (.app (.i .i64) 15 0 [(.app (.i .i64) 0 1 [(.var .x 3), (.var (.i .i64) 5), (.lit .x 1)]), (.lit (.i .i64) 16)]), (.bin .add .i64 (.bin .add .i64 (.app (.i .i64) 17 0 [(.var (.i .i64) 0), (.var .x 1), (.var .x 2)]) (.lit (.i .i64) 1)) (.app (.i .i64) 15 0 [(.app (.i .i64) 0 1 [(.var .x 3), (.var (.i .i64) 5), (.lit .x 2)]), (.lit (.i .i64) 600)]))])))) (.lit (.i .i64) 0)))))) (.ite (.not (.cmp .lss (.var (.i .i64) 5) (.var (.i .i64) 4))) (.not (.cmp .lss (.var (.i .i64) 5) (.var (.i .i64) 4))) (.cmp .lss (.var (.i .i64) 5) (.var (.i .i64) 4)))) (.not (.and (.cmp .lss (.var (.i .i64) 5) (.var (.i .i64) 4)) (.cmp .neq (.ite (.cmp .eql (.dv .rem .u8 (.app (.i .u8) 0 1 [(.var .x 3), (.var (.i .i64) 5), (.lit .x 0)]) 8) (.lit (.i .u8) 4)) (.ite (.cmp .eql (.app (.i .i64) 22 3 [(.var (.i .i64) 0), (.var .x 1), (.var .x 2), (.app (.i .i64) 15 0 [(.app (.i .i64) 0 1 [(.var .x 3), (.var (.i .i64) 5), (.lit .x 1)]), (.lit (.i .i64) 16)])]) (.lit (.i .i64) 6)) (.lit (.i .i64) 0) (.app (.i .i64) 22 3 [(.var (.i .i64) 0), (.var .x 1), (.var .x 2), (.app (.i .i64) 15 0 [(.app (.i .i64) 0 1 [(.var .x 3), (.var (.i .i64) 5), (.lit .x 1)]), (.lit (.i .i64) 16)])])) (.ite (.cmp .eql (.dv .rem .u8 (.app (.i .u8) 0 1 [(.var .x 3), (.var (.i .i64) 5), (.lit .x 0)]) 8) (.lit (.i .u8) 5)) (.app (.i .i64) 16 4 [(.var (.i .i64) 0), (.var .x 1), (.var .x 2)]) (.ite (.cmp .eql (.dv .rem .u8 (.app (.i .u8) 0 1 [(.var .x 3), (.var (.i .i64) 5), (.lit .x 0)]) 8) (.lit (.i .u8) 6)) (.app (.i .i64) 24 4 [(.var (.i .i64) 0), (.var .x 1), (.var .x 2), (.bin .add .i64 (.app (.i .i64) 17 0 [(.var (.i .i64) 0), (.var .x 1), (.var .x 2)]) (.app (.i .i64) 15 0 [(.app (.i .i64) 0 1 [(.var .x 3), (.var (.i .i64) 5), (.lit .x 2)]), (.lit (.i .i64) 600)]))]) (.app (.i .i64) 21 3 [(.var (.i .i64) 0), (.var .x 1), (.var .x 2), (.app (.i .i64) 15 0 [(.app (.i .i64) 0 1 [(.var .x 3), (.var (.i .i64) 5), (.lit .x 1)]), (.lit (.i .i64) 16)]), (.bin .add .i64 (.bin .add .i64 (.app (.i .i64) 17 0 [(.var (.i .i64) 0), (.var .x 1), (.var .x 2)]) (.lit (.i .i64) 1)) (.app (.i .i64) 15 0 [(.app (.i .i64) 0 1 [(.var .x 3), (.var (.i .i64) 5), (.lit .x 2)]), (.lit (.i .i64) 600)]))])))) (.lit (.i .i64) 0))))))
def es_L13 : List E := [(.ite (.not (.cmp .lss (.var (.i .i64) 5) (.var (.i .i64) 4))) (.var (.i .i64) 0) (.app (.i .i64) 9013 0 [(.ite (.cmp .eql (.dv .rem .u8 (.app (.i .u8) 0 1 [(.var .x 3), (.var (.i .i64) 5), (.lit .x 0)]) 8) (.lit (.i .u8) 4)) (.app (.i .i64) 22 0 [(.var (.i .i64) 0), (.var .x 1), (.var .x 2), (.app (.i .i64) 15 0 [(.app (.i .i64) 0 1 [(.var .x 3), (.var (.i .i64) 5), (.lit .x 1)]), (.lit (.i .i64) 16)])]) (.ite (.cmp .eql (.dv .rem .u8 (.app (.i .u8) 0 1 [(.var .x 3), (.var (.i .i64) 5), (.lit .x 0)]) 8) (.lit (.i .u8) 5)) (.app (.i .i64) 16 0 [(.var (.i .i64) 0), (.var .x 1), (.var .x 2)]) (.ite (.cmp .eql (.dv .rem .u8 (.app (.i .u8) 0 1 [(.var .x 3), (.var (.i .i64) 5), (.lit .x 0)]) 8) (.lit (.i .u8) 6)) (.app (.i .i64) 24 0 [(.var (.i .i64) 0), (.var .x 1), (.var .x 2), (.bin .add .i64 (.app (.i .i64) 17 0 [(.var (.i .i64) 0), (.var .x 1), (.var .x 2)]) (.app (.i .i64) 15 0 [(.app (.i .i64) 0 1 [(.var .x 3), (.var (.i .i64) 5), (.lit .x 2)]), (.lit (.i .i64) 600)]))]) (.app (.i .i64) 21 0 [(.var (.i .i64) 0), (.var .x 1), (.var .x 2), (.app (.i .i64) 15 0 [(.app (.i .i64) 0 1 [(.var .x 3), (.var (.i .i64) 5), (.lit .x 1)]), (.lit (.i .i64) 16)]), (.bin .add .i64 (.bin .add .i64 (.app (.i .i64) 17 0 [(.var (.i .i64) 0), (.var .x 1), (.var .x 2)]) (.lit (.i .i64) 1)) (.app (.i .i64) 15 0 [(.app (.i .i64) 0 1 [(.var .x 3), (.var (.i .i64) 5), (.lit .x 2)]), (.lit (.i .i64) 600)]))])))), (.ite (.cmp .eql (.dv .rem .u8 (.app (.i .u8) 0 1 [(.var .x 3), (.var (.i .i64) 5), (.lit .x 0)]) 8) (.lit (.i .u8) 4)) (.app .x 22 1 [(.var (.i .i64) 0), (.var .x 1), (.var .x 2), (.app (.i .i64) 15 0 [(.app (.i .i64) 0 1 [(.var .x 3), (.var (.i .i64) 5), (.lit .x 1)]), (.lit (.i .i64) 16)])]) (.ite (.cmp .eql (.dv .rem .u8 (.app (.i .u8) 0 1 [(.var .x 3), (.var (.i .i64) 5), (.lit .x 0)]) 8) (.lit (.i .u8) 5)) (.app .x 16 1 [(.var (.i .i64) 0), (.var .x 1), (.var .x 2)]) (.ite (.cmp .eql (.dv .rem .u8 (.app (.i .u8) 0 1 [(.var .x 3), (.var (.i .i64) 5), (.lit .x 0)]) 8) (.lit (.i .u8) 6)) (.app .x 24 1 [(.var (.i .i64) 0), (.var .x 1), (.var .x 2), (.bin .add .i64 (.app (.i .i64) 17 0 [(.var (.i .i64) 0), (.var .x 1), (.var .x 2)]) (.app (.i .i64) 15 0 [(.app (.i .i64) 0 1 [(.var .x 3), (.var (.i .i64) 5), (.lit .x 2)]), (.lit (.i .i64) 600)]))]) (.app .x 21 1 [(.var (.i .i64) 0), (.var .x 1), (.var .x 2), (.app (.i .i64) 15 0 [(.app (.i .i64) 0 1 [(.var .x 3), (.var (.i .i64) 5), (.lit .x 1)]), (.lit (.i .i64) 16)]), (.bin .add .i64 (.bin .add .i64 (.app (.i .i64) 17 0 [(.var (.i .i64) 0), (.var .x 1), (.var .x 2)]) (.lit (.i .i64) 1)) (.app (.i .i64) 15 0 [(.app (.i .i64) 0 1 [(.var .x 3), (.var (.i .i64) 5), (.lit .x 2)]), (.lit (.i .i64) 600)]))])))), (.ite (.cmp .eql (.dv .rem .u8 (.app (.i .u8) 0 1 [(.var .x 3), (.var (.i .i64) 5), (.lit .x 0)]) 8) (.lit (.i .u8) 4)) (.app .x 22 2 [(.var (.i .i64) 0), (.var .x 1), (.var .x 2), (.app (.i .i64) 15 0 [(.app (.i .i64) 0 1 [(.var .x 3), (.var (.i .i64) 5), (.lit .x 1)]), (.lit (.i .i64) 16)])]) (.ite (.cmp .eql (.dv .rem .u8 (.app (.i .u8) 0 1 [(.var .x 3), (.var (.i .i64) 5), (.lit .x 0)]) 8) (.lit (.i .u8) 5)) (.app .x 16 2 [(.var (.i .i64) 0), (.var .x 1), (.var .x 2)]) (.ite (.cmp .eql (.dv .rem .u8 (.app (.i .u8) 0 1 [(.var .x 3), (.var (.i .i64) 5), (.lit .x 0)]) 8) (.lit (.i .u8) 6)) (.app .x 24 2 [(.var (.i .i64) 0), (.var .x 1), (.var .x 2), (.bin .add .i64 (.app (.i .i64) 17 0 [(.var (.i .i64) 0), (.var .x 1), (.var .x 2)]) (.app (.i .i64) 15 0 [(.app (.i .i64) 0 1 [(.var .x 3), (.var (.i .i64) 5), (.lit .x 2)]), (.lit (.i .i64) 600)]))]) (.app .x 21 2 [(.var (.i .i64) 0), (.var .x 1), (.var .x 2), (.app (.i .i64) 15 0 [(.app (.i .i64) 0 1 [(.var .x 3), (.var (.i .i64) 5), (.lit .x 1)]), (.lit (.i .i64) 16)]), (.bin .add .i64 (.bin .add .i64 (.app (.i .i64) 17 0 [(.var (.i .i64) 0), (.var .x 1), (.var .x 2)]) (.lit (.i .i64) 1)) (.app (.i .i64) 15 0 [(.app (.i .i64) 0 1 [(.var .x 3), (.var (.i .i64) 5), (.lit .x 2)]), (.lit (.i .i64) 600)]))])))), (.var .x 3), (.var (.i .i64) 4), (.bin .add .i64 (.var (.i .i64) 5) (.lit (.i .i64) 1))])), (.ite (.not (.cmp .lss (.var (.i .i64) 5) (.var (.i .i64) 4))) (.var .x 1) (.app .x 9013 1 [(.ite (.cmp .eql (.dv .rem .u8 (.app (.i .u8) 0 1 [(.var .x 3), (.var (.i .i64) 5), (.lit .x 0)]) 8) (.lit (.i .u8) 4)) (.app (.i .i64) 22 0 [(.var (.i .i64) 0), (.var .x 1), (.var .x 2), (.app (.i .i64) 15 0 [(.app (.i .i64) 0 1 [(.var .x 3), (.var (.i .i64) 5), (.lit .x 1)]), (.lit (.i .i64) 16)])]) (.ite (.cmp .eql (.dv .rem .u8 (.app (.i .u8) 0 1 [(.var .x 3), (.var (.i .i64) 5), (.lit .x 0)]) 8) (.lit (.i .u8) 5)) (.app (.i .i64) 16 0 [(.var (.i .i64) 0), (.var .x 1), (.var .x 2)]) (.ite (.cmp .eql (.dv .rem .u8 (.app (.i .u8) 0 1 [(.var .x 3), (.var (.i .i64) 5), (.lit .x 0)]) 8) (.lit (.i .u8) 6)) (.app (.i .i64) 24 0 [(.var (.i .i64) 0), (.var .x 1), (.var .x 2), (.bin .add .i64 (.app (.i .i64) 17 0 [(.var (.i .i64) 0), (.var .x 1), (.var .x 2)]) (.app (.i .i64) 15 0 [(.app (.i .i64) 0 1 [(.var .x 3), (.var (.i .i64) 5), (.lit .x 2)]), (.lit (.i .i64) 600)]))]) (.app (.i .i64) 21 0 [(.var (.i .i64) 0), (.var .x 1), (.var .x 2), (.app (.i .i64) 15 0 [(.app (.i .i64) 0 1 [(.var .x 3), (.var (.i .i64) 5), (.lit .x 1)]), (.lit (.i .i64) 16)]), (.bin .add .i64 (.bin .add .i64 (.app (.i .i64) 17 0 [(.var (.i .i64) 0), (.var .x 1), (.var .x 2)]) (.lit (.i .i64) 1)) (.app (.i .i64) 15 0 [(.app (.i .i64) 0 1 [(.var .x 3), (.var (.i .i64) 5), (.lit .x 2)]), (.lit (.i .i64) 600)]))])))), (.ite (.cmp .eql (.dv .rem .u8 (.app (.i .u8) 0 1 [(.var .x 3), (.var (.i .i64) 5), (.lit .x 0)]) 8) (.lit (.i .u8) 4)) (.app .x 22 1 [(.var (.i .i64) 0), (.var .x 1), (.var .x 2), (.app (.i .i64) 15 0 [(.app (.i .i64) 0 1 [(.var .x 3), (.var (.i .i64) 5), (.lit .x 1)]), (.lit (.i .i64) 16)])]) (.ite (.cmp .eql (.dv .rem .u8 (.app (.i .u8) 0 1 [(.var .x 3), (.var (.i .i64) 5), (.lit .x 0)]) 8) (.lit (.i .u8) 5)) (.app .x 16 1 [(.var (.i .i64) 0), (.var .x 1), (.var .x 2)]) (.ite (.cmp .eql (.dv .rem .u8 (.app (.i .u8) 0 1 [(.var .x 3), (.var (.i .i64) 5), (.lit .x 0)]) 8) (.lit (.i .u8) 6)) (.app .x 24 1 [(.var (.i .i64) 0), (.var .x 1), (.var .x 2), (.bin .add .i64 (.app (.i .i64) 17 0 [(.var (.i .i64) 0), (.var .x 1), (.var .x 2)]) (.app (.i .i64) 15 0 [(.app (.i .i64) 0 1 [(.var .x 3), (.var (.i .i64) 5), (.lit .x 2)]), (.lit (.i .i64) 600)]))]) (.app .x 21 1 [(.var (.i .i64) 0), (.var .x 1), (.var .x 2), (.app (.i .i64) 15 0 [(.app (.i .i64) 0 1 [(.var .x 3), (.var (.i .i64) 5), (.lit .x 1)]), (.lit (.i .i64) 16)]), (.bin .add .i64 (.bin .add .i64 (.app (.i .i64) 17 0 [(.var (.i .i64) 0), (.var .x 1), (.var .x 2)]) (.lit (.i .i64) 1)) (.app (.i .i64) 15 0 [(.app (.i .i64) 0 1 [(.var .x 3), (.var (.i .i64) 5), (.lit .x 2)]), (.lit (.i .i64) 600)]))])))), (.ite (.cmp .eql (.dv .rem .u8 (.app (.i .u8) 0 1 [(.var .x 3), (.var (.i .i64) 5), (.lit .x 0)]) 8) (.lit (.i .u8) 4)) (.app .x 22 2 [(.var (.i .i64) 0), (.var .x 1), (.var .x 2), (.app (.i .i64) 15 0 [(.app (.i .i64) 0 1 [(.var .x 3), (.var (.i .i64) 5), (.lit .x 1)]), (.lit (.i .i64) 16)])]) (.ite (.cmp .eql (.dv .rem .u8 (.app (.i .u8) 0 1 [(.var .x 3), (.var (.i .i64) 5), (.lit .x 0)]) 8) (.lit (.i .u8) 5)) (.app .x 16 2 [(.var (.i .i64) 0), (.var .x 1), (.var .x 2)]) (.ite (.cmp .eql (.dv .rem .u8 (.app (.i .u8) 0 1 [(.var .x 3), (.var (.i .i64) 5), (.lit .x 0)]) 8) (.lit (.i .u8) 6)) (.app .x 24 2 [(.var (.i .i64) 0), (.var .x 1), (.var .x 2), (.bin .add .i64 (.app (.i .i64) 17 0 [(.var (.i .i64) 0), (.var .x 1), (.var .x 2)]) (.app (.i .i64) 15 0 [(.app (.i .i64) 0 1 [(.var .x 3), (.var (.i .i64) 5), (.lit .x 2)]), (.lit (.i .i64) 600)]))]) (.app .x 21 2 [(.var (.i .i64) 0), (.var .x 1), (.var .x 2), (.app (.i .i64) 15 0 [(.app (.i .i64) 0 1 [(.var .x 3), (.var (.i .i64) 5), (.lit .x 1)]), (.lit (.i .i64) 16)]), (.bin .add .i64 (.bin .add .i64 (.app (.i .i64) 17 0 [(.var (.i .i64) 0), (.var .x 1), (.var .x 2)]) (.lit (.i .i64) 1)) (.app (.i .i64) 15 0 [(.app (.i .i64) 0 1 [(.var .x 3), (.var (.i .i64) 5), (.lit .x 2)]), (.lit (.i .i64) 600)]))])))), (.var .x 3), (.var (.i .i64) 4), (.bin .add .i64 (.var (.i .i64) 5) (.lit (.i .i64) 1))])), (.ite (.not (.cmp .lss (.var (.i .i64) 5) (.var (.i .i64) 4))) (.var .x 2) (.app .x 9013 2 [(.ite (.cmp .eql (.dv .rem .u8 (.app (.i .u8) 0 1 [(.var .x 3), (.var (.i .i64) 5), (.lit .x 0)]) 8) (.lit (.i .u8) 4)) (.app (.i .i64) 22 0 [(.var (.i .i64) 0), (.var .x 1), (.var .x 2), (.app (.i .i64) 15 0 [(.app (.i .i64) 0 1 [(.var .x 3), (.var (.i .i64) 5), (.lit .x 1)]), (.lit (.i .i64) 16)])]) (.ite (.cmp .eql (.dv .rem .u8 (.app (.i .u8) 0 1 [(.var .x 3), (.var (.i .i64) 5), (.lit .x 0)]) 8) (.lit (.i .u8) 5)) (.app (.i .i64) 16 0 [(.var (.i .i64) 0), (.var .x 1), (.var .x 2)]) (.ite (.cmp .eql (.dv .rem .u8 (.app (.i .u8) 0 1 [(.var .x 3), (.var (.i .i64) 5), (.lit .x 0)]) 8) (.lit (.i .u8) 6)) (.app (.i .i64) 24 0 [(.var (.i .i64) 0), (.var .x 1), (.var .x 2), (.bin .add .i64 (.app (.i .i64) 17 0 [(.var (.i .i64) 0), (.var .x 1), (.var .x 2)]) (.app (.i .i64) 15 0 [(.app (.i .i64) 0 1 [(.var .x 3), (.var (.i .i64) 5), (.lit .x 2)]), (.lit (.i .i64) 600)]))]) (.app (.i .i64) 21 0 [(.var (.i .i64) 0), (.var .x 1), (.var .x 2), (.app (.i .i64) 15 0 [(.app (.i .i64) 0 1 [(.var .x 3), (.var (.i .i64) 5), (.lit .x 1)]), (.lit (.i .i64) 16)]), (.bin .add .i64 (.bin .add .i64 (.app (.i .i64) 17 0 [(.var (.i .i64) 0), (.var .x 1), (.var .x 2)]) (.lit (.i .i64) 1)) (.app (.i .i64) 15 0 [(.app (.i .i64) 0 1 [(.var .x 3), (.var (.i .i64) 5), (.lit .x 2)]), (.lit (.i .i64) 600)]))])))), (.ite (.cmp .eql (.dv .rem .u8 (.app (.i .u8) 0 1 [(.var .x 3), (.var (.i .i64) 5), (.lit .x 0)]) 8) (.lit (.i .u8) 4)) (.app .x 22 1 [(.var (.i .i64) 0), (.var .x 1), (.var .x 2), (.app (.i .i64) 15 0 [(.app (.i .i64) 0 1 [(.var .x 3), (.var (.i .i64) 5), (.lit .x 1)]), (.lit (.i .i64) 16)])]) (.ite (.cmp .eql (.dv .rem .u8 (.app (.i .u8) 0 1 [(.var .x 3), (.var (.i .i64) 5), (.lit .x 0)]) 8) (.lit (.i .u8) 5)) (.app .x 16 1 [(.var (.i .i64) 0), (.var .x 1), (.var .x 2)]) (.ite (.cmp .eql (.dv .rem .u8 (.app (.i .u8) 0 1 [(.var .x 3), (.var (.i .i64) 5), (.lit .x 0)]) 8) (.lit (.i .u8) 6)) (.app .x 24 1 [(.var (.i .i64) 0), (.var .x 1), (.var .x 2), (.bin .add .i64 (.app (.i .i64) 17 0 [(.var (.i .i64) 0), (.var .x 1), (.var .x 2)]) (.app (.i .i64) 15 0 [(.app (.i .i64) 0 1 [(.var .x 3), (.var (.i .i64) 5), (.lit .x 2)]), (.lit (.i .i64) 600)]))]) (.app .x 21 1 [(.var (.i .i64) 0), (.var .x 1), (.var .x 2), (.app (.i .i64) 15 0 [(.app (.i .i64) 0 1 [(.var .x 3), (.var (.i .i64) 5), (.lit .x 1)]), (.lit (.i .i64) 16)]), (.bin .add .i64 (.bin .add .i64 (.app (.i .i64) 17 0 [(.var (.i .i64) 0), (.var .x 1), (.var .x 2)]) (.lit (.i .i64) 1)) (.app (.i .i64) 15 0 [(.app (.i .i64) 0 1 [(.var .x 3), (.var (.i .i64) 5), (.lit .x 2)]), (.lit (.i .i64) 600)]))])))), (.ite (.cmp .eql (.dv .rem .u8 (.app (.i .u8) 0 1 [(.var .x 3), (.var (.i .i64) 5), (.lit .x 0)]) 8) (.lit (.i .u8) 4)) (.app .x 22 2 [(.var (.i .i64) 0), (.var .x 1), (.var .x 2), (.app (.i .i64) 15 0 [(.app (.i .i64) 0 1 [(.var .x 3), (.var (.i .i64) 5), (.lit .x 1)]), (.lit (.i .i64) 16)])]) (.ite (.cmp .eql (.dv .rem .u8 (.app (.i .u8) 0 1 [(.var .x 3), (.var (.i .i64) 5), (.lit .x 0)]) 8) (.lit (.i .u8) 5)) (.app .x 16 2 [(.var (.i .i64) 0), (.var .x 1), (.var .x 2)]) (.ite (.cmp .eql (.dv .rem .u8 (.app (.i .u8) 0 1 [(.var .x 3), (.var (.i .i64) 5), (.lit .x 0)]) 8) (.lit (.i .u8) 6)) (.app .x 24 2 [(.var (.i .i64) 0), (.var .x 1), (.var .x 2), (.bin .add .i64 (.app (.i .i64) 17 0 [(.var (.i .i64) 0), (.var .x 1), (.var .x 2)]) (.app (.i .i64) 15 0 [(.app (.i .i64) 0 1 [(.var .x 3), (.var (.i .i64) 5), (.lit .x 2)]), (.lit (.i .i64) 600)]))]) (.app .x 21 2 [(.var (.i .i64) 0), (.var .x 1), (.var .x 2), (.app (.i .i64) 15 0 [(.app (.i .i64) 0 1 [(.var .x 3), (.var (.i .i64) 5), (.lit .x 1)]), (.lit (.i .i64) 16)]), (.bin .add .i64 (.bin .add .i64 (.app (.i .i64) 17 0 [(.var (.i .i64) 0), (.var .x 1), (.var .x 2)]) (.lit (.i .i64) 1)) (.app (.i .i64) 15 0 [(.app (.i .i64) 0 1 [(.var .x 3), (.var (.i .i64) 5), (.lit .x 2)]), (.lit (.i .i64) 600)]))])))), (.var .x 3), (.var (.i .i64) 4), (.bin .add .i64 (.var (.i .i64) 5) (.lit (.i .i64) 1))]))]
theorem ev_L13 : evL Try.prog G0 (tabOf cC.fs) (evFn Try.prog G0 (tabOf cC.fs) (ltOf cC.ls) 40 10) 40 (subL cC.ls 13 [true,true,true,false,true,false]) le13 (bodyAt Try.prog 13 [true,true,true,false,true,false]) = some (ob_L13, es_L13) := by kernel_rfl

theorem QI.arm {now tc mc i d : Int} (h : QI now (dc tc) (dc mc)) : QI now (dc (fn21 1 [now, tc, mc, i, d])) (dc (fn21 2 [now, tc, mc, i, d])) := by
  show QI now (dc (bif armB now i d then cd (insT [i, d] (delT i (dc tc))) else tc)) (dc (bif armB now i d then cd (putR 1 [i, d] (delR [i] (dc mc))) else mc))
  cases hb : armB now i d
  · exact h
  · simp only [cond_true, dc_cd]
    have hb' := hb
    simp only [armB, rightB, Bool.and_eq_true, decide_eq_true_eq, Bool.not_eq_true', decide_eq_false_iff_not] at hb'
    refine (h.del i).ins (fun x hx => ?_) (by omega) (by omega) (by omega) (by omega)
    have := (List.mem_filter.1 hx).2
    simpa using this
theorem QI.can {now tc mc i : Int} (h : QI now (dc tc) (dc mc)) : QI now (dc (fn22 1 [now, tc, mc, i])) (dc (fn22 2 [now, tc, mc, i])) := by
  show QI now (dc (bif rightB i && hasM (dc mc) i then cd (delT i (dc tc)) else tc)) (dc (bif rightB i && hasM (dc mc) i then cd (delR [i] (dc mc)) else mc))
  cases rightB i && hasM (dc mc) i
  · exact h
  · simp only [cond_true, dc_cd]
    exact h.del i
theorem QI.toF {now tc mc t : Int} (h : QI now (dc tc) (dc mc)) : QI (fn24 0 [now, tc, mc, t]) (dc (fn24 1 [now, tc, mc, t])) (dc (fn24 2 [now, tc, mc, t])) := by
  show QI (bif toB now t then t else now) (dc (bif toB now t then cd (leftT t (dc tc)) else tc)) (dc (bif toB now t then delC (dueT t (dc tc)) mc else mc))
  cases hb : toB now t
  · exact h
  · simp only [cond_true]
    simp only [toB, Bool.and_eq_true, Bool.not_eq_true', decide_eq_false_iff_not] at hb
    show QI t (dc (cd (leftT t (dc tc)))) (dc (delC (dueT t (dc tc)) mc))
    rw [dc_delC, dc_cd]
    exact h.to (by omega) (by omega)
theorem rightB_ok {i : Int} (h : 0 ≤ i) (h1 : i < 4096) : rightB i = true := by simp [rightB, h, h1]
theorem armB_ok {now i d : Int} (h : 0 ≤ i) (h1 : i < 4096) (h2 : now < d) (h3 : d ≤ now + 2147483648) : armB now i d = true := by
  simp only [armB, rightB_ok h h1, Bool.true_and, Bool.and_eq_true, Bool.not_eq_true', decide_eq_false_iff_not]; omega
theorem toB_ok {now t : Int} (h : now ≤ t) (h1 : t ≤ 1099511627776) : toB now t = true := by
  simp only [toB, Bool.and_eq_true, Bool.not_eq_true', decide_eq_false_iff_not]; omega
theorem tickT_ok {now : Int} (h : now ≤ 1099511627776) : now ≤ tickT now ∧ tickT now ≤ now + 1 ∧ tickT now ≤ 1099511627776 := by
  unfold tickT; split <;> omega
theorem stepM_ok {q : Int × Int × Int} {b : Int} (r : List Int) (h : MI b q) (hb : b + 600 ≤ 1099511627776) : MI (b + 600) (stepM r q) := by
  obtain ⟨now, tc, mc⟩ := q
  obtain ⟨h1, h2, h3⟩ := h
  simp only at h1 h2 h3
  have ht := h1.tim
  have m16 : ∀ x : Int, 0 ≤ x % 16 ∧ x % 16 < 16 := fun x => by omega
  have m600 : ∀ x : Int, 0 ≤ x % 600 ∧ x % 600 < 600 := fun x => by omega
  have g1 := m16 (r.getD 1 0)
  have g2 := m600 (r.getD 2 0)
  unfold stepM
  generalize r.getD 1 0 % 16 = i at *
  generalize r.getD 2 0 % 600 = d at *
  simp only
  split
  · refine ⟨h1.can, by show now ≤ _; omega, fun r hr => ?_⟩
    replace hr : r ∈ dc (bif rightB i && hasM (dc mc) i then cd (delT i (dc tc)) else tc) := hr
    cases hb : rightB i && hasM (dc mc) i <;> rw [hb] at hr
    · exact h3 r hr
    · simp only [cond_true, dc_cd] at hr
      exact h3 r (List.mem_filter.1 hr).1
  split
  · refine ⟨h1.toF, ?_, fun r hr => ?_⟩
    · show (bif toB now (tickT now) then tickT now else now) ≤ _
      cases toB now (tickT now)
      · simp only [cond_false]; omega
      · simp only [cond_true]; unfold tickT; split <;> omega
    · replace hr : r ∈ dc (bif toB now (tickT now) then cd (leftT (tickT now) (dc tc)) else tc) := hr
      have hge : now ≤ fn16 0 [now, tc, mc] := by
        show now ≤ (bif toB now (tickT now) then tickT now else now)
        cases toB now (tickT now)
        · exact Int.le_refl _
        · exact (tickT_ok ht.2).1
      have hm : r ∈ dc tc := by
        cases hb : toB now (tickT now) <;> rw [hb] at hr
        · exact hr
        · simp only [cond_true, dc_cd] at hr
          exact (List.mem_filter.1 hr).1
      have := h3 r hm
      exact ⟨this.1, by show dlR r ≤ fn16 0 [now, tc, mc] + 600; omega⟩
  split
  · refine ⟨h1.toF, ?_, fun r hr => ?_⟩
    · show (bif toB now (now + d) then now + d else now) ≤ _
      cases toB now (now + d)
      · simp only [cond_false]; omega
      · simp only [cond_true]; omega
    · replace hr : r ∈ dc (bif toB now (now + d) then cd (leftT (now + d) (dc tc)) else tc) := hr
      have hge : now ≤ fn24 0 [now, tc, mc, now + d] := by
        show now ≤ (bif toB now (now + d) then now + d else now)
        cases toB now (now + d)
        · exact Int.le_refl _
        · show now ≤ now + d; omega
      have hm : r ∈ dc tc := by
        cases hb : toB now (now + d) <;> rw [hb] at hr
        · exact hr
        · simp only [cond_true, dc_cd] at hr
          exact (List.mem_filter.1 hr).1
      have := h3 r hm
      exact ⟨this.1, by show dlR r ≤ fn24 0 [now, tc, mc, now + d] + 600; omega⟩
  · refine ⟨h1.arm, by show now ≤ _; omega, fun r hr => ?_⟩
    replace hr : r ∈ dc (bif armB now i (now + 1 + d) then cd (insT [i, now + 1 + d] (delT i (dc tc))) else tc) := hr
    cases hb : armB now i (now + 1 + d) <;> rw [hb] at hr
    · exact h3 r hr
    · simp only [cond_true, dc_cd] at hr
      rcases List.mem_cons.1 ((perm_ins _ _).subset hr) with rfl | hr
      · exact ⟨by show i < 16; omega, by show now + 1 + d ≤ now + 600; omega⟩
      · exact h3 r (List.mem_filter.1 hr).1
theorem runM_ok : ∀ {l : RL} {q : Int × Int × Int} {b : Int}, MI b q → b + 600 * (l.length : Int) ≤ 1099511627776 → MI (b + 600 * (l.length : Int)) (runM l q)
  | [], q, b, h, hb => by
    have : b + 600 * ((([] : RL).length : Nat) : Int) = b := by simp
    rw [this]; exact h
  | r :: l, q, b, h, hb => by
    simp only [List.length_cons] at hb ⊢
    have := runM_ok (l := l) (stepM_ok r h (by omega)) (by omega)
    rw [show b + 600 + 600 * (l.length : Int) = b + 600 * ((l.length + 1 : Nat) : Int) by omega] at this
    exact this

theorem cCok : cC.OK Try.prog G0 := by
  have h8 : Ctx.OK Try.prog G0 ⟨e24 :: e17 :: e22 :: e21 :: e15 :: c7.fs, []⟩ := ((((c7ok.addF ok15 rfl).addF ok21 rfl).addF ok22 rfl).addF ok17 rfl).addF ok24 rfl
  exact (h8.addF ok16 rfl).sub rfl (by simp [cC]) (by simp [cC])
theorem row_at {ks : List K} {c i : Int} (h : rowsOK ks (dc c)) (h0 : 0 ≤ i) (h1 : i < ((dc c).length : Int)) : ∃ r, (dc c).getD i.toNat [] = r ∧ fits ks r ∧ r ∈ dc c ∧ (dc c).drop i.toNat = r :: (dc c).drop (i + 1).toNat := by
  have hl : i.toNat < (dc c).length := by omega
  refine ⟨(dc c)[i.toNat], by simp [List.getD, hl], h _ (List.getElem_mem hl), List.getElem_mem hl, ?_⟩
  rw [List.drop_eq_getElem_cons hl, show (i + 1).toNat = i.toNat + 1 by omega]

set_option maxHeartbeats 4000000 in
theorem lo13 : ItemOK Try.prog G0 13 [true,true,true,false,true,false] le13 := by
  refine cCok.loopP mixed mu13 rfl ?_ ev_L13 _ rfl _ rfl ?_
  · exact ⟨_, _, _, Try.func13, rfl, rfl⟩
  intro n xs hf hp hmu
  obtain ⟨l, hl, hS, hF⟩ := self_P le13 mu13 n cC.l (by decide)
  show ob_L13.tt (Tabs.F (enL le13 mu13 n :: cC.l)) _ = true ∧ outsP le13.ent.fn _ (Tabs.F (enL le13 mu13 n :: cC.l)) _ _ _ _
  rw [hl]
  have F15_0 : ∀ xs, l.F 15 0 xs = e15.fn 0 xs := (hF e15 (by rfl) (by decide) (by decide)).1 0 rfl
  have P15 := (hF e15 (by rfl) (by decide) (by decide)).2
  replace P15 : ∀ xs, (i2b (K.b.norm (l.F 15 1000000 xs)) = true) = _ := P15
  have F16_0 : ∀ xs, l.F 16 0 xs = e16.fn 0 xs := (hF e16 (by rfl) (by decide) (by decide)).1 0 rfl
  have F16_1 : ∀ xs, l.F 16 1 xs = e16.fn 1 xs := (hF e16 (by rfl) (by decide) (by decide)).1 1 rfl
  have F16_2 : ∀ xs, l.F 16 2 xs = e16.fn 2 xs := (hF e16 (by rfl) (by decide) (by decide)).1 2 rfl
  have F16_4 : ∀ xs, l.F 16 4 xs = e16.fn 4 xs := (hF e16 (by rfl) (by decide) (by decide)).1 4 rfl
  have P16 := (hF e16 (by rfl) (by decide) (by decide)).2
  replace P16 : ∀ xs, (i2b (K.b.norm (l.F 16 1000000 xs)) = true) = _ := P16
  have F17_0 : ∀ xs, l.F 17 0 xs = e17.fn 0 xs := (hF e17 (by rfl) (by decide) (by decide)).1 0 rfl
  have P17 := (hF e17 (by rfl) (by decide) (by decide)).2
  replace P17 : ∀ xs, (i2b (K.b.norm (l.F 17 1000000 xs)) = true) = _ := P17
  have F21_0 : ∀ xs, l.F 21 0 xs = e21.fn 0 xs := (hF e21 (by rfl) (by decide) (by decide)).1 0 rfl
  have F21_1 : ∀ xs, l.F 21 1 xs = e21.fn 1 xs := (hF e21 (by rfl) (by decide) (by decide)).1 1 rfl
  have F21_2 : ∀ xs, l.F 21 2 xs = e21.fn 2 xs := (hF e21 (by rfl) (by decide) (by decide)).1 2 rfl
  have F21_3 : ∀ xs, l.F 21 3 xs = e21.fn 3 xs := (hF e21 (by rfl) (by decide) (by decide)).1 3 rfl
  have P21 := (hF e21 (by rfl) (by decide) (by decide)).2
  replace P21 : ∀ xs, (i2b (K.b.norm (l.F 21 1000000 xs)) = true) = _ := P21
  have F22_0 : ∀ xs, l.F 22 0 xs = e22.fn 0 xs := (hF e22 (by rfl) (by decide) (by decide)).1 0 rfl
  have F22_1 : ∀ xs, l.F 22 1 xs = e22.fn 1 xs := (hF e22 (by rfl) (by decide) (by decide)).1 1 rfl
  have F22_2 : ∀ xs, l.F 22 2 xs = e22.fn 2 xs := (hF e22 (by rfl) (by decide) (by decide)).1 2 rfl
  have F22_3 : ∀ xs, l.F 22 3 xs = e22.fn 3 xs := (hF e22 (by rfl) (by decide) (by decide)).1 3 rfl
  have P22 := (hF e22 (by rfl) (by decide) (by decide)).2
  replace P22 : ∀ xs, (i2b (K.b.norm (l.F 22 1000000 xs)) = true) = _ := P22
  have F24_0 : ∀ xs, l.F 24 0 xs = e24.fn 0 xs := (hF e24 (by rfl) (by decide) (by decide)).1 0 rfl
  have F24_1 : ∀ xs, l.F 24 1 xs = e24.fn 1 xs := (hF e24 (by rfl) (by decide) (by decide)).1 1 rfl
  have F24_2 : ∀ xs, l.F 24 2 xs = e24.fn 2 xs := (hF e24 (by rfl) (by decide) (by decide)).1 2 rfl
  have F24_4 : ∀ xs, l.F 24 4 xs = e24.fn 4 xs := (hF e24 (by rfl) (by decide) (by decide)).1 4 rfl
  have P24 := (hF e24 (by rfl) (by decide) (by decide)).2
  replace P24 : ∀ xs, (i2b (K.b.norm (l.F 24 1000000 xs)) = true) = _ := P24
  have F9013_0 : ∀ xs, l.F 9013 0 xs = le13.ent.fn 0 xs := hS.1 0 rfl
  have F9013_1 : ∀ xs, l.F 9013 1 xs = le13.ent.fn 1 xs := hS.1 1 rfl
  have F9013_2 : ∀ xs, l.F 9013 2 xs = le13.ent.fn 2 xs := hS.1 2 rfl
  have P9013 := hS.2
  replace P9013 : ∀ xs, (i2b (K.b.norm (l.F 9013 1000000 xs)) = true) = _ := P9013
  match xs, hf with
  | [now, tc, mc, c, m, i], hf =>
    obtain ⟨h0, h1, h2, h3, h4, h5, _⟩ := hf
    simp only [norm_i, norm_x] at h0 h4 h5
    obtain ⟨p1, p2, p3, p4, p5, p6, p7, p8⟩ := hp
    simp only [ewA, ewL, preC, binI, dvI, shI, cmpB, env, bi, List.headD, List.tail, List.map, Nat.reduceAdd] at p1 p2 p3 p4 p5 p6 p7 p8 hmu
    replace p1 : QI now (dc tc) (dc mc) := p1
    have e1 : le13.ent.fn = fnL13 := rfl
    have e2 : le13.ent.pre = preL13 := rfl
    have ht := p1.tim
    by_cases hlt : i < m
    · obtain ⟨r, hr, hrf, hrm, hrd⟩ := row_at p2 p4 (by omega)
      match r, hrf with
      | [k, a, b], hrf =>
        obtain ⟨k0, k1, k2, _⟩ := hrf
        simp only [norm_i] at k0 k1 k2
        have hst := stepM_ok (q := (now, tc, mc)) (b := now) [k, a, b] ⟨p1, Int.le_refl _, p8⟩ (by omega)
        have g1 : 0 ≤ a % 16 ∧ a % 16 < 16 := by omega
        have g2 : 0 ≤ b % 600 ∧ b % 600 < 600 := by omega
        generalize hA : a % 16 = A at *
        generalize hB : b % 600 = B at *
        have r1 := rightB_ok g1.1 (by omega)
        have q1 : armB now A (now + 1 + B) = true := armB_ok g1.1 (by omega) (by omega) (by omega)
        have q2 : toB now (now + B) = true := toB_ok (by omega) (by omega)
        have q3 : toB now (tickT now) = true := toB_ok (tickT_ok ht.2).1 (tickT_ok ht.2).2.2
        have key : ∀ n' t' m', stepM [k, a, b] (now, tc, mc) = (n', t', m') → (∀ j, fnL13 j [now, tc, mc, c, m, i] = fnL13 j [n', t', m', c, m, i + 1]) ∧ preL13 [n', t', m', c, m, i + 1] ∧ mu13 [n', t', m', c, m, i + 1] < n := fun n' t' m' hs => by
          rw [hs] at hst
          obtain ⟨s1, s2, s3⟩ := hst
          simp only at s1 s2 s3
          have e : runM ((dc c).drop i.toNat) (now, tc, mc) = runM ((dc c).drop (i + 1).toNat) (n', t', m') := by rw [hrd]; unfold runM; rw [List.foldl_cons, hs]
          refine ⟨fun j => ?_, ⟨s1, p2, p3, by show 0 ≤ i + 1; omega, by show i + 1 ≤ m; omega, p6, by show n' + 600 * (m - (i + 1)) ≤ _; omega, s3⟩, by simp only [mu13, ewA, ewL, preC, binI, dvI, shI, cmpB, env, bi, List.headD, List.tail, List.map, Nat.reduceAdd] at hmu ⊢; omega⟩
          have e' : runM ((dc (env [now, tc, mc, c, m, i] 3)).drop (env [now, tc, mc, c, m, i] 5).toNat) (env [now, tc, mc, c, m, i] 0, env [now, tc, mc, c, m, i] 1, env [now, tc, mc, c, m, i] 2) = runM ((dc (env [n', t', m', c, m, i + 1] 3)).drop (env [n', t', m', c, m, i + 1] 5).toNat) (env [n', t', m', c, m, i + 1] 0, env [n', t', m', c, m, i + 1] 1, env [n', t', m', c, m, i + 1] 2) := e
          match j with
          | 0 => exact congrArg (·.1) e'
          | 1 => exact congrArg (·.2.1) e'
          | _ + 2 => exact congrArg (·.2.2) e'
        by_cases k4 : k.tmod 8 = 4
        · have hs : stepM [k, a, b] (now, tc, mc) = (now, fn22 1 [now, tc, mc, A], fn22 2 [now, tc, mc, A]) := by
            simp only [stepM, List.getD_cons_succ, List.getD_cons_zero, hA, hB, k4, if_true, if_false]
          have hk := key _ _ _ hs
          have x0 : fn22 0 [now, tc, mc, A] = now := rfl
          obtain ⟨x, hx, hx'⟩ : ∃ x, fn22 3 [now, tc, mc, A] = x ∧ (x = 0 ∨ x = 6) := ⟨_, rfl, by
            show (bif rightB A then (bif hasM (dc mc) A then 0 else 6) else (2 : Int)) = 0 ∨ (bif rightB A then (bif hasM (dc mc) A then 0 else 6) else (2 : Int)) = 6
            rw [r1]; cases hasM (dc mc) A <;> simp⟩
          refine ⟨?_, ?_, ?_, ?_, trivial⟩
          · simp (disch := omega) only [ob_L13, ewA, ewL, preC, binI, dvI, shI, cmpB, env, bi, List.headD, List.tail, List.map, Nat.reduceAdd, ewB, ewM, if_true, if_false, implies_true, forall_const, ne_eq, reduceCtorEq, Int.reduceEq, Int.reduceLT, Int.reduceLE, Int.reduceToNat, Int.reduceAdd, Int.reduceSub, Int.reduceMul, Int.reduceNeg, Int.reduceBEq, Nat.reduceLT, Nat.reduceEqDiff, F15_0, P15, F16_0, F16_1, F16_2, F16_4, P16, F17_0, P17, F21_0, F21_1, F21_2, F21_3, P21, F22_0, F22_1, F22_2, F22_3, P22, F24_0, F24_1, F24_2, F24_4, P24, F9013_0, F9013_1, F9013_2, P9013, h0, h4, h5, hlt, hr, k0, k1, k2, e15, e22, e16, e24, e17, e21, hA, hB, k4, x0, hx, e2]
            exact ⟨⟨⟨by omega, p1⟩, fun _ => hk.2⟩, by split <;> omega⟩
          all_goals simp (disch := omega) only [es_L13, ewA, ewL, preC, binI, dvI, shI, cmpB, env, bi, List.headD, List.tail, List.map, Nat.reduceAdd, ewB, ewM, if_true, if_false, implies_true, forall_const, ne_eq, reduceCtorEq, Int.reduceEq, Int.reduceLT, Int.reduceLE, Int.reduceToNat, Int.reduceAdd, Int.reduceSub, Int.reduceMul, Int.reduceNeg, Int.reduceBEq, Nat.reduceLT, Nat.reduceEqDiff, F15_0, P15, F16_0, F16_1, F16_2, F16_4, P16, F17_0, P17, F21_0, F21_1, F21_2, F21_3, P21, F22_0, F22_1, F22_2, F22_3, P22, F24_0, F24_1, F24_2, F24_4, P24, F9013_0, F9013_1, F9013_2, P9013, h0, h4, h5, hlt, hr, k0, k1, k2, e15, e22, e16, e24, e17, e21, hA, hB, k4, e1, x0, hx]
          · rw [hk.1 0]
          · exact hk.1 1
          · exact hk.1 2
        by_cases k5 : k.tmod 8 = 5
        · have hs : stepM [k, a, b] (now, tc, mc) = (tickT now, fn16 1 [now, tc, mc], fn16 2 [now, tc, mc]) := by
            simp only [stepM, List.getD_cons_succ, List.getD_cons_zero, hA, hB, k4, k5, if_true, if_false, Int.reduceEq]
            rw [show fn16 0 [now, tc, mc] = tickT now from by show (bif toB now (tickT now) then tickT now else now) = _; rw [q3]; rfl]
          have hk := key _ _ _ hs
          have x0 : fn16 0 [now, tc, mc] = tickT now := by show (bif toB now (tickT now) then tickT now else now) = _; rw [q3]; rfl
          have x4 : fn16 4 [now, tc, mc] = 0 := by show (bif toB now (tickT now) then (0 : Int) else 2) = _; rw [q3]; rfl
          have x1 := tickT_ok ht.2
          refine ⟨?_, ?_, ?_, ?_, trivial⟩
          · simp (disch := omega) only [ob_L13, ewA, ewL, preC, binI, dvI, shI, cmpB, env, bi, List.headD, List.tail, List.map, Nat.reduceAdd, ewB, ewM, if_true, if_false, implies_true, forall_const, ne_eq, reduceCtorEq, Int.reduceEq, Int.reduceLT, Int.reduceLE, Int.reduceToNat, Int.reduceAdd, Int.reduceSub, Int.reduceMul, Int.reduceNeg, Int.reduceBEq, Nat.reduceLT, Nat.reduceEqDiff, F15_0, P15, F16_0, F16_1, F16_2, F16_4, P16, F17_0, P17, F21_0, F21_1, F21_2, F21_3, P21, F22_0, F22_1, F22_2, F22_3, P22, F24_0, F24_1, F24_2, F24_4, P24, F9013_0, F9013_1, F9013_2, P9013, h0, h4, h5, hlt, hr, k0, k1, k2, e15, e22, e16, e24, e17, e21, hA, hB, k4, k5, x0, x4, e2]
            exact ⟨⟨by omega, p1⟩, hk.2⟩
          all_goals simp (disch := omega) only [es_L13, ewA, ewL, preC, binI, dvI, shI, cmpB, env, bi, List.headD, List.tail, List.map, Nat.reduceAdd, ewB, ewM, if_true, if_false, implies_true, forall_const, ne_eq, reduceCtorEq, Int.reduceEq, Int.reduceLT, Int.reduceLE, Int.reduceToNat, Int.reduceAdd, Int.reduceSub, Int.reduceMul, Int.reduceNeg, Int.reduceBEq, Nat.reduceLT, Nat.reduceEqDiff, F15_0, P15, F16_0, F16_1, F16_2, F16_4, P16, F17_0, P17, F21_0, F21_1, F21_2, F21_3, P21, F22_0, F22_1, F22_2, F22_3, P22, F24_0, F24_1, F24_2, F24_4, P24, F9013_0, F9013_1, F9013_2, P9013, h0, h4, h5, hlt, hr, k0, k1, k2, e15, e22, e16, e24, e17, e21, hA, hB, k4, k5, e1, x0, x4]
          · rw [hk.1 0]
          · exact hk.1 1
          · exact hk.1 2
        by_cases k6 : k.tmod 8 = 6
        · have hs : stepM [k, a, b] (now, tc, mc) = (now + B, fn24 1 [now, tc, mc, now + B], fn24 2 [now, tc, mc, now + B]) := by
            simp only [stepM, List.getD_cons_succ, List.getD_cons_zero, hA, hB, k4, k5, k6, if_true, if_false, Int.reduceEq]
            rw [show fn24 0 [now, tc, mc, now + B] = now + B from by show (bif toB now (now + B) then now + B else now) = _; rw [q2]; rfl]
          have hk := key _ _ _ hs
          have x0 : fn24 0 [now, tc, mc, now + B] = now + B := by show (bif toB now (now + B) then now + B else now) = _; rw [q2]; rfl
          have x4 : fn24 4 [now, tc, mc, now + B] = 0 := by show (bif toB now (now + B) then (0 : Int) else 2) = _; rw [q2]; rfl
          refine ⟨?_, ?_, ?_, ?_, trivial⟩
          · simp (disch := omega) only [ob_L13, ewA, ewL, preC, binI, dvI, shI, cmpB, env, bi, List.headD, List.tail, List.map, Nat.reduceAdd, ewB, ewM, if_true, if_false, implies_true, forall_const, ne_eq, reduceCtorEq, Int.reduceEq, Int.reduceLT, Int.reduceLE, Int.reduceToNat, Int.reduceAdd, Int.reduceSub, Int.reduceMul, Int.reduceNeg, Int.reduceBEq, Nat.reduceLT, Nat.reduceEqDiff, F15_0, P15, F16_0, F16_1, F16_2, F16_4, P16, F17_0, P17, F21_0, F21_1, F21_2, F21_3, P21, F22_0, F22_1, F22_2, F22_3, P22, F24_0, F24_1, F24_2, F24_4, P24, F9013_0, F9013_1, F9013_2, P9013, h0, h4, h5, hlt, hr, k0, k1, k2, e15, e22, e16, e24, e17, e21, hA, hB, k4, k5, k6, x0, x4, e2]
            exact ⟨⟨by omega, p1⟩, hk.2⟩
          all_goals simp (disch := omega) only [es_L13, ewA, ewL, preC, binI, dvI, shI, cmpB, env, bi, List.headD, List.tail, List.map, Nat.reduceAdd, ewB, ewM, if_true, if_false, implies_true, forall_const, ne_eq, reduceCtorEq, Int.reduceEq, Int.reduceLT, Int.reduceLE, Int.reduceToNat, Int.reduceAdd, Int.reduceSub, Int.reduceMul, Int.reduceNeg, Int.reduceBEq, Nat.reduceLT, Nat.reduceEqDiff, F15_0, P15, F16_0, F16_1, F16_2, F16_4, P16, F17_0, P17, F21_0, F21_1, F21_2, F21_3, P21, F22_0, F22_1, F22_2, F22_3, P22, F24_0, F24_1, F24_2, F24_4, P24, F9013_0, F9013_1, F9013_2, P9013, h0, h4, h5, hlt, hr, k0, k1, k2, e15, e22, e16, e24, e17, e21, hA, hB, k4, k5, k6, e1, x0, x4]
          · rw [hk.1 0]
          · exact hk.1 1
          · exact hk.1 2
        · have hs : stepM [k, a, b] (now, tc, mc) = (now, fn21 1 [now, tc, mc, A, now + 1 + B], fn21 2 [now, tc, mc, A, now + 1 + B]) := by
            simp only [stepM, List.getD_cons_succ, List.getD_cons_zero, hA, hB, k4, k5, k6, if_true, if_false]
          have hk := key _ _ _ hs
          have x0 : fn21 0 [now, tc, mc, A, now + 1 + B] = now := rfl
          have x4 : fn21 3 [now, tc, mc, A, now + 1 + B] = 0 := by show (bif armB now A (now + 1 + B) then (0 : Int) else 2) = _; rw [q1]; rfl
          refine ⟨?_, ?_, ?_, ?_, trivial⟩
          · simp (disch := omega) only [ob_L13, ewA, ewL, preC, binI, dvI, shI, cmpB, env, bi, List.headD, List.tail, List.map, Nat.reduceAdd, ewB, ewM, if_true, if_false, implies_true, forall_const, ne_eq, reduceCtorEq, Int.reduceEq, Int.reduceLT, Int.reduceLE, Int.reduceToNat, Int.reduceAdd, Int.reduceSub, Int.reduceMul, Int.reduceNeg, Int.reduceBEq, Nat.reduceLT, Nat.reduceEqDiff, F15_0, P15, F16_0, F16_1, F16_2, F16_4, P16, F17_0, P17, F21_0, F21_1, F21_2, F21_3, P21, F22_0, F22_1, F22_2, F22_3, P22, F24_0, F24_1, F24_2, F24_4, P24, F9013_0, F9013_1, F9013_2, P9013, h0, h4, h5, hlt, hr, k0, k1, k2, e15, e22, e16, e24, e17, e21, hA, hB, k4, k5, k6, x0, x4, e2]
            exact ⟨⟨by omega, p1⟩, hk.2⟩
          all_goals simp (disch := omega) only [es_L13, ewA, ewL, preC, binI, dvI, shI, cmpB, env, bi, List.headD, List.tail, List.map, Nat.reduceAdd, ewB, ewM, if_true, if_false, implies_true, forall_const, ne_eq, reduceCtorEq, Int.reduceEq, Int.reduceLT, Int.reduceLE, Int.reduceToNat, Int.reduceAdd, Int.reduceSub, Int.reduceMul, Int.reduceNeg, Int.reduceBEq, Nat.reduceLT, Nat.reduceEqDiff, F15_0, P15, F16_0, F16_1, F16_2, F16_4, P16, F17_0, P17, F21_0, F21_1, F21_2, F21_3, P21, F22_0, F22_1, F22_2, F22_3, P22, F24_0, F24_1, F24_2, F24_4, P24, F9013_0, F9013_1, F9013_2, P9013, h0, h4, h5, hlt, hr, k0, k1, k2, e15, e22, e16, e24, e17, e21, hA, hB, k4, k5, k6, e1, x0, x4]
          · rw [hk.1 0]
          · exact hk.1 1
          · exact hk.1 2
    · have hd : (dc c).drop i.toNat = [] := List.drop_of_length_le (by omega)
      have e' : runM ((dc (env [now, tc, mc, c, m, i] 3)).drop (env [now, tc, mc, c, m, i] 5).toNat) (env [now, tc, mc, c, m, i] 0, env [now, tc, mc, c, m, i] 1, env [now, tc, mc, c, m, i] 2) = (now, tc, mc) := by
        show runM ((dc c).drop i.toNat) (now, tc, mc) = _; rw [hd]; rfl
      have x0 : fnL13 0 [now, tc, mc, c, m, i] = now := congrArg (·.1) e'
      have x1 : fnL13 1 [now, tc, mc, c, m, i] = tc := congrArg (·.2.1) e'
      have x2 : fnL13 2 [now, tc, mc, c, m, i] = mc := congrArg (·.2.2) e'
      refine ⟨?_, ?_, ?_, ?_, trivial⟩
      · simp (disch := omega) only [ob_L13, ewA, ewL, preC, binI, dvI, shI, cmpB, env, bi, List.headD, List.tail, List.map, Nat.reduceAdd, ewB, ewM, if_true, if_false, implies_true, forall_const, ne_eq, reduceCtorEq, Int.reduceEq, Int.reduceLT, Int.reduceLE, Int.reduceToNat, Int.reduceAdd, Int.reduceSub, Int.reduceMul, Int.reduceNeg, Int.reduceBEq, Nat.reduceLT, Nat.reduceEqDiff, F15_0, P15, F16_0, F16_1, F16_2, F16_4, P16, F17_0, P17, F21_0, F21_1, F21_2, F21_3, P21, F22_0, F22_1, F22_2, F22_3, P22, F24_0, F24_1, F24_2, F24_4, P24, F9013_0, F9013_1, F9013_2, P9013, h0, h4, h5, hlt]
      · simp (disch := omega) only [es_L13, ewA, ewL, preC, binI, dvI, shI, cmpB, env, bi, List.headD, List.tail, List.map, Nat.reduceAdd, ewB, ewM, if_true, if_false, implies_true, forall_const, ne_eq, reduceCtorEq, Int.reduceEq, Int.reduceLT, Int.reduceLE, Int.reduceToNat, Int.reduceAdd, Int.reduceSub, Int.reduceMul, Int.reduceNeg, Int.reduceBEq, Nat.reduceLT, Nat.reduceEqDiff, F15_0, P15, F16_0, F16_1, F16_2, F16_4, P16, F17_0, P17, F21_0, F21_1, F21_2, F21_3, P21, F22_0, F22_1, F22_2, F22_3, P22, F24_0, F24_1, F24_2, F24_4, P24, F9013_0, F9013_1, F9013_2, P9013, h0, h4, h5, hlt, e1, x0]
      · simp (disch := omega) only [es_L13, ewA, ewL, preC, binI, dvI, shI, cmpB, env, bi, List.headD, List.tail, List.map, Nat.reduceAdd, ewB, ewM, if_true, if_false, implies_true, forall_const, ne_eq, reduceCtorEq, Int.reduceEq, Int.reduceLT, Int.reduceLE, Int.reduceToNat, Int.reduceAdd, Int.reduceSub, Int.reduceMul, Int.reduceNeg, Int.reduceBEq, Nat.reduceLT, Nat.reduceEqDiff, F15_0, P15, F16_0, F16_1, F16_2, F16_4, P16, F17_0, P17, F21_0, F21_1, F21_2, F21_3, P21, F22_0, F22_1, F22_2, F22_3, P22, F24_0, F24_1, F24_2, F24_4, P24, F9013_0, F9013_1, F9013_2, P9013, h0, h4, h5, hlt, e1, x1]
      · simp (disch := omega) only [es_L13, ewA, ewL, preC, binI, dvI, shI, cmpB, env, bi, List.headD, List.tail, List.map, Nat.reduceAdd, ewB, ewM, if_true, if_false, implies_true, forall_const, ne_eq, reduceCtorEq, Int.reduceEq, Int.reduceLT, Int.reduceLE, Int.reduceToNat, Int.reduceAdd, Int.reduceSub, Int.reduceMul, Int.reduceNeg, Int.reduceBEq, Nat.reduceLT, Nat.reduceEqDiff, F15_0, P15, F16_0, F16_1, F16_2, F16_4, P16, F17_0, P17, F21_0, F21_1, F21_2, F21_3, P21, F22_0, F22_1, F22_2, F22_3, P22, F24_0, F24_1, F24_2, F24_4, P24, F9013_0, F9013_1, F9013_2, P9013, h0, h4, h5, hlt, e1, x2]

def ob_13 : E := (.and (.and (.app .b 15 1000000 [(.var (.i .i64) 0), (.lit (.i .i64) 1099511496704)]) (.app .b 20 1000000 [(.app (.i .i64) 15 0 [(.var (.i .i64) 0), (.lit (.i .i64) 1099511496704)])])) (.and (.and (.cmp .leq (.lit (.i .i64) 0) (.ite (.cmp .lss (.lit (.i .i64) 60) (.app (.i .i64) 0 0 [(.var .x 1)])) (.lit (.i .i64) 60) (.app (.i .i64) 0 0 [(.var .x 1)]))) (.cmp .leq (.ite (.cmp .lss (.lit (.i .i64) 60) (.app (.i .i64) 0 0 [(.var .x 1)])) (.lit (.i .i64) 60) (.app (.i .i64) 0 0 [(.var .x 1)])) (.app (.i .i64) 0 0 [(.var .x 1)]))) (.app .b 9013 1000000 [(.app (.i .i64) 20 0 [(.app (.i .i64) 15 0 [(.var (.i .i64) 0), (.lit (.i .i64) 1099511496704)])]), (.app .x 20 1 [(.app (.i .i64) 15 0 [(.var (.i .i64) 0), (.lit (.i .i64) 1099511496704)])]), (.app .x 20 2 [(.app (.i .i64) 15 0 [(.var (.i .i64) 0), (.lit (.i .i64) 1099511496704)])]), (.app .x 0 5 [(.var .x 1), (.lit (.i .i64) 0), (.ite (.cmp .lss (.lit (.i .i64) 60) (.app (.i .i64) 0 0 [(.var .x 1)])) (.lit (.i .i64) 60) (.app (.i .i64) 0 0 [(.var .x 1)]))]), (.app (.i .i64) 0 0 [(.app .x 0 5 [(.var .x 1), (.lit (.i .i64) 0), (.ite (.cmp .lss (.lit (.i .i64) 60) (.app (.i .i64) 0 0 [(.var .x 1)])) (.lit (.i .i64) 60) (.app (.i .i64) 0 0 [(.var .x 1)]))])]), (.lit (.i .i64) 0)])))
def es_13 : List E := [(.app (.i .i64) 9013 0 [(.app (.i .i64) 20 0 [(.app (.i .i64) 15 0 [(.var (.i .i64) 0), (.lit (.i .i64) 1099511496704)])]), (.app .x 20 1 [(.app (.i .i64) 15 0 [(.var (.i .i64) 0), (.lit (.i .i64) 1099511496704)])]), (.app .x 20 2 [(.app (.i .i64) 15 0 [(.var (.i .i64) 0), (.lit (.i .i64) 1099511496704)])]), (.app .x 0 5 [(.var .x 1), (.lit (.i .i64) 0), (.ite (.cmp .lss (.lit (.i .i64) 60) (.app (.i .i64) 0 0 [(.var .x 1)])) (.lit (.i .i64) 60) (.app (.i .i64) 0 0 [(.var .x 1)]))]), (.app (.i .i64) 0 0 [(.app .x 0 5 [(.var .x 1), (.lit (.i .i64) 0), (.ite (.cmp .lss (.lit (.i .i64) 60) (.app (.i .i64) 0 0 [(.var .x 1)])) (.lit (.i .i64) 60) (.app (.i .i64) 0 0 [(.var .x 1)]))])]), (.lit (.i .i64) 0)]), (.app .x 9013 1 [(.app (.i .i64) 20 0 [(.app (.i .i64) 15 0 [(.var (.i .i64) 0), (.lit (.i .i64) 1099511496704)])]), (.app .x 20 1 [(.app (.i .i64) 15 0 [(.var (.i .i64) 0), (.lit (.i .i64) 1099511496704)])]), (.app .x 20 2 [(.app (.i .i64) 15 0 [(.var (.i .i64) 0), (.lit (.i .i64) 1099511496704)])]), (.app .x 0 5 [(.var .x 1), (.lit (.i .i64) 0), (.ite (.cmp .lss (.lit (.i .i64) 60) (.app (.i .i64) 0 0 [(.var .x 1)])) (.lit (.i .i64) 60) (.app (.i .i64) 0 0 [(.var .x 1)]))]), (.app (.i .i64) 0 0 [(.app .x 0 5 [(.var .x 1), (.lit (.i .i64) 0), (.ite (.cmp .lss (.lit (.i .i64) 60) (.app (.i .i64) 0 0 [(.var .x 1)])) (.lit (.i .i64) 60) (.app (.i .i64) 0 0 [(.var .x 1)]))])]), (.lit (.i .i64) 0)]), (.app .x 9013 2 [(.app (.i .i64) 20 0 [(.app (.i .i64) 15 0 [(.var (.i .i64) 0), (.lit (.i .i64) 1099511496704)])]), (.app .x 20 1 [(.app (.i .i64) 15 0 [(.var (.i .i64) 0), (.lit (.i .i64) 1099511496704)])]), (.app .x 20 2 [(.app (.i .i64) 15 0 [(.var (.i .i64) 0), (.lit (.i .i64) 1099511496704)])]), (.app .x 0 5 [(.var .x 1), (.lit (.i .i64) 0), (.ite (.cmp .lss (.lit (.i .i64) 60) (.app (.i .i64) 0 0 [(.var .x 1)])) (.lit (.i .i64) 60) (.app (.i .i64) 0 0 [(.var .x 1)]))]), (.app (.i .i64) 0 0 [(.app .x 0 5 [(.var .x 1), (.lit (.i .i64) 0), (.ite (.cmp .lss (.lit (.i .i64) 60) (.app (.i .i64) 0 0 [(.var .x 1)])) (.lit (.i .i64) 60) (.app (.i .i64) 0 0 [(.var .x 1)]))])]), (.lit (.i .i64) 0)])]
theorem ev_13 : evE Try.prog G0 (tabOf cD.fs) (ltOf cD.ls) 40 10 e13 = some (ob_13, es_13) := by kernel_rfl

theorem cDok : cD.OK Try.prog G0 := (((c7ok.addF ok15 rfl).addF ok20 rfl).addL lo13 rfl).sub rfl (by simp [cD]) (by simp [cD])
theorem QI.nil {t : Int} (h0 : 0 ≤ t) (h1 : t ≤ 1099511627776) : QI t (dc (cd [])) (dc (cd [])) := by
  rw [dc_cd]
  exact ⟨List.Pairwise.nil, (fun r hr => absurd hr (by simp)), List.Pairwise.nil, List.Perm.refl _, (fun r hr => absurd hr (by simp)), ⟨h0, h1⟩⟩
theorem madM_ok (t : Int) (l : RL) : MI 1099511532703 (madM t l) := by
  have h : MI 1099511496703 (iniM t) := ⟨QI.nil (by show 0 ≤ t % 1099511496704; omega) (by show t % 1099511496704 ≤ _; omega), by show t % 1099511496704 ≤ _; omega, fun r hr => by
    replace hr : r ∈ dc (cd []) := hr
    rw [dc_cd] at hr; cases hr⟩
  have hl : (l.take 60).length ≤ 60 := by simp; omega
  obtain ⟨h1, h2, h3⟩ := runM_ok (l := l.take 60) h (by omega)
  exact ⟨h1, by unfold madM; omega, h3⟩

set_option maxHeartbeats 4000000 in
theorem ok13 : EntryOK Try.prog G0 e13 := cDok.entryP mixed ev_13 _ rfl _ rfl fun xs hf hp => by
  obtain ⟨l, hl, hF⟩ := ctx_P (l0 := cD.l)
  show ob_13.tt cD.l.F _ = true ∧ outsP e13.fn _ cD.l.F _ _ _ _
  rw [hl]
  have F15_0 : ∀ xs, l.F 15 0 xs = e15.fn 0 xs := (hF e15 (by rfl) (by decide)).1 0 rfl
  have P15 := (hF e15 (by rfl) (by decide)).2
  replace P15 : ∀ xs, (i2b (K.b.norm (l.F 15 1000000 xs)) = true) = _ := P15
  have F20_0 : ∀ xs, l.F 20 0 xs = e20.fn 0 xs := (hF e20 (by rfl) (by decide)).1 0 rfl
  have F20_1 : ∀ xs, l.F 20 1 xs = e20.fn 1 xs := (hF e20 (by rfl) (by decide)).1 1 rfl
  have F20_2 : ∀ xs, l.F 20 2 xs = e20.fn 2 xs := (hF e20 (by rfl) (by decide)).1 2 rfl
  have P20 := (hF e20 (by rfl) (by decide)).2
  replace P20 : ∀ xs, (i2b (K.b.norm (l.F 20 1000000 xs)) = true) = _ := P20
  have F9013_0 : ∀ xs, l.F 9013 0 xs = le13.ent.fn 0 xs := (hF le13.ent (by rfl) (by decide)).1 0 rfl
  have F9013_1 : ∀ xs, l.F 9013 1 xs = le13.ent.fn 1 xs := (hF le13.ent (by rfl) (by decide)).1 1 rfl
  have F9013_2 : ∀ xs, l.F 9013 2 xs = le13.ent.fn 2 xs := (hF le13.ent (by rfl) (by decide)).1 2 rfl
  have P9013 := (hF le13.ent (by rfl) (by decide)).2
  replace P9013 : ∀ xs, (i2b (K.b.norm (l.F 9013 1000000 xs)) = true) = _ := P9013
  match xs, hf with
  | [t, c], hf =>
    obtain ⟨h0, h1, _⟩ := hf
    simp only [norm_i, norm_x] at h0
    obtain ⟨p1, p2⟩ := hp
    simp only [ewA, ewL, preC, binI, dvI, shI, cmpB, env, bi, List.headD, List.tail, List.map, Nat.reduceAdd] at p1 p2
    refine ⟨?_, ?_, ?_, ?_, trivial⟩
    all_goals
      have hT : (dc c).take (if 60 < ((dc c).length : Int) then 60 else ((dc c).length : Int)).toNat = (dc c).take 60 := by
        split
        · rfl
        · rw [Int.toNat_natCast, List.take_of_length_le (Nat.le_refl _), List.take_of_length_le (by omega)]
      have hL : ((dc c).take 60).length ≤ 60 := by simp; omega
      have x0 : fn20 0 [t % 1099511496704] = t % 1099511496704 := rfl
      have x1 : fn20 1 [t % 1099511496704] = cd [] := rfl
      have x2 : fn20 2 [t % 1099511496704] = cd [] := rfl
      have b1 : (0 ≤ if 60 < ((dc c).length : Int) then 60 else ((dc c).length : Int)) := by split <;> omega
      have b2 : (if 60 < ((dc c).length : Int) then 60 else ((dc c).length : Int)) ≤ ((dc c).length : Int) := by split <;> omega
      have e1 : le13.ent.fn = fnL13 := rfl
      have f : ∀ j, fn13 j [t, c] = fnL13 j [t % 1099511496704, cd [], cd [], cd ((dc c).take 60), (((dc c).take 60).length : Int), 0] := fun j => by
        have e : madM (env [t, c] 0) (dc (env [t, c] 1)) = runM ((dc (cd ((dc c).take 60))).drop (0 : Int).toNat) (t % 1099511496704, cd [], cd []) := by rw [dc_cd]; rfl
        match j with
        | 0 => exact congrArg (·.1) e
        | 1 => exact congrArg (·.2.1) e
        | _ + 2 => exact congrArg (·.2.2) e
    · simp (disch := omega) only [ob_13, ewA, ewL, preC, binI, dvI, shI, cmpB, env, bi, List.headD, List.tail, List.map, Nat.reduceAdd, ewB, ewM, if_true, if_false, implies_true, forall_const, ne_eq, reduceCtorEq, Int.reduceEq, Int.reduceLT, Int.reduceLE, Int.reduceToNat, Int.reduceAdd, Int.reduceSub, Int.reduceMul, Int.reduceNeg, Int.reduceBEq, Nat.reduceLT, Nat.reduceEqDiff, F15_0, P15, F20_0, F20_1, F20_2, P20, F9013_0, F9013_1, F9013_2, P9013, h0, e20, e15, hT, x0, x1, x2, b1, b2]
      refine ⟨⟨by omega, by show t % 1099511496704 ≤ _; omega⟩, QI.nil (by show 0 ≤ t % 1099511496704; omega) (by show t % 1099511496704 ≤ _; omega), ?_, ?_, by show (0 : Int) ≤ 0; omega, by show (0 : Int) ≤ ((_ : Nat) : Int); omega, by show ((List.take 60 (dc c)).length : Int) ≤ 60; omega, by show t % 1099511496704 + 600 * (((List.take 60 (dc c)).length : Int) - 0) ≤ 1099511627776; omega, fun r hr => ?_⟩
      · show rowsOK actK (dc (cd _)); rw [dc_cd]; exact fun r hr => p1 r (List.mem_of_mem_take hr)
      · show ((List.take 60 (dc c)).length : Int) = ((dc (cd _)).length : Int); rw [dc_cd]
      · replace hr : r ∈ dc (cd []) := hr
        rw [dc_cd] at hr; cases hr
    · simp (disch := omega) only [es_13, ewA, ewL, preC, binI, dvI, shI, cmpB, env, bi, List.headD, List.tail, List.map, Nat.reduceAdd, ewB, ewM, if_true, if_false, implies_true, forall_const, ne_eq, reduceCtorEq, Int.reduceEq, Int.reduceLT, Int.reduceLE, Int.reduceToNat, Int.reduceAdd, Int.reduceSub, Int.reduceMul, Int.reduceNeg, Int.reduceBEq, Nat.reduceLT, Nat.reduceEqDiff, F15_0, P15, F20_0, F20_1, F20_2, P20, F9013_0, F9013_1, F9013_2, P9013, h0, e20, e15, e13, hT, x0, x1, x2, e1, f 0]
    · simp (disch := omega) only [es_13, ewA, ewL, preC, binI, dvI, shI, cmpB, env, bi, List.headD, List.tail, List.map, Nat.reduceAdd, ewB, ewM, if_true, if_false, implies_true, forall_const, ne_eq, reduceCtorEq, Int.reduceEq, Int.reduceLT, Int.reduceLE, Int.reduceToNat, Int.reduceAdd, Int.reduceSub, Int.reduceMul, Int.reduceNeg, Int.reduceBEq, Nat.reduceLT, Nat.reduceEqDiff, F15_0, P15, F20_0, F20_1, F20_2, P20, F9013_0, F9013_1, F9013_2, P9013, h0, e20, e15, e13, hT, x0, x1, x2, e1, f 1]
    · simp (disch := omega) only [es_13, ewA, ewL, preC, binI, dvI, shI, cmpB, env, bi, List.headD, List.tail, List.map, Nat.reduceAdd, ewB, ewM, if_true, if_false, implies_true, forall_const, ne_eq, reduceCtorEq, Int.reduceEq, Int.reduceLT, Int.reduceLE, Int.reduceToNat, Int.reduceAdd, Int.reduceSub, Int.reduceMul, Int.reduceNeg, Int.reduceBEq, Nat.reduceLT, Nat.reduceEqDiff, F15_0, P15, F20_0, F20_1, F20_2, P20, F9013_0, F9013_1, F9013_2, P9013, h0, e20, e15, e13, hT, x0, x1, x2, e1, f 2]

end
end Go.Proofs.Ytmolkkphnehgcaa.Ew
