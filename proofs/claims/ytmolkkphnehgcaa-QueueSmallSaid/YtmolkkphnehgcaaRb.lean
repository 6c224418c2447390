/- Layer 17: acts with a queue and one of the reference. -/
import Derived.Test.YtmolkkphnehgcaaRa
set_option linter.unusedVariables false
set_option linter.unusedSimpArgs false
namespace Go.Proofs.Ytmolkkphnehgcaa.Ew
open Go Go.RowKit
noncomputable section
--P Try.prog G0

def act : Sh := .agg [.sc (.i .u8), i64, i64]
/-- Arm, Cancel, To, Tick with both: time, timers, map; time, timers of the reference. -/
def armX (s : List Int) (i d : Int) : Nat → Int
  | 0 => fn21 0 [env s 0, env s 1, env s 2, i, d]
  | 1 => fn21 1 [env s 0, env s 1, env s 2, i, d]
  | 2 => fn21 2 [env s 0, env s 1, env s 2, i, d]
  | 3 => fn53 0 [env s 3, env s 4, i, d]
  | _ => fn53 1 [env s 3, env s 4, i, d]
def canX (s : List Int) (i : Int) : Nat → Int
  | 0 => fn22 0 [env s 0, env s 1, env s 2, i]
  | 1 => fn22 1 [env s 0, env s 1, env s 2, i]
  | 2 => fn22 2 [env s 0, env s 1, env s 2, i]
  | 3 => fn49 0 [env s 3, env s 4, i]
  | _ => fn49 1 [env s 3, env s 4, i]
def toX (s : List Int) (t : Int) : Nat → Int
  | 0 => fn24 0 [env s 0, env s 1, env s 2, t]
  | 1 => fn24 1 [env s 0, env s 1, env s 2, t]
  | 2 => fn24 2 [env s 0, env s 1, env s 2, t]
  | 3 => fn51 0 [env s 3, env s 4, t]
  | _ => fn51 1 [env s 3, env s 4, t]
def tickX (s : List Int) : Nat → Int
  | 0 => fn16 0 [env s 0, env s 1, env s 2]
  | 1 => fn16 1 [env s 0, env s 1, env s 2]
  | 2 => fn16 2 [env s 0, env s 1, env s 2]
  | 3 => fn50 0 [env s 3, env s 4]
  | _ => fn50 1 [env s 3, env s 4]
def fn52 (j : Nat) (xs : List Int) : Int := if (env xs 7).tmod 2 = 0 then armX xs (env xs 6) (env xs 7) j else if (env xs 7).tmod 3 = 0 then canX xs (env xs 6) j else toX xs (env xs 6) j
def fn37 (j : Nat) (xs : List Int) : Int :=
  if (env xs 5).tmod 8 = 4 then canX xs (env xs 6 % 16) j else if (env xs 5).tmod 8 = 5 then tickX xs j else if (env xs 5).tmod 8 = 6 then toX xs (env xs 3 + env xs 7 % 600) j
  else if (env xs 5).tmod 8 = 7 then fn52 j xs else armX xs (env xs 6 % 16) (env xs 3 + 1 + env xs 7 % 600) j
def e52 : Ent := ⟨52, 52, [qo, rq, act], [qob], [3], .tup [rq, .lt .b 1], fn52, RX⟩
def e37 : Ent := ⟨37, 37, [qo, rq, act], [qob], [3], .tup [rq, .lt .b 1], fn37, RX⟩
def cU0 : Ctx := ⟨[e21, e53, e22, e49, e24, e51, e47], []⟩
def cU1 : Ctx := ⟨[e21, e53, e22, e49, e24, e51, e16, e50, e15, e52, e47], []⟩

def ob_52 : E := (.and (.and (.or (.not (.cmp .eql (.dv .rem .i64 (.var (.i .i64) 7) 2) (.lit (.i .i64) 0))) (.and (.app .b 21 1000000 [(.var (.i .i64) 0), (.var .x 1), (.var .x 2), (.var (.i .i64) 6), (.var (.i .i64) 7)]) (.app .b 53 1000000 [(.var (.i .i64) 3), (.var .x 4), (.var (.i .i64) 6), (.var (.i .i64) 7)]))) (.or (.cmp .eql (.dv .rem .i64 (.var (.i .i64) 7) 2) (.lit (.i .i64) 0)) (.and (.or (.not (.cmp .eql (.dv .rem .i64 (.var (.i .i64) 7) 3) (.lit (.i .i64) 0))) (.and (.app .b 22 1000000 [(.var (.i .i64) 0), (.var .x 1), (.var .x 2), (.var (.i .i64) 6)]) (.app .b 49 1000000 [(.var (.i .i64) 3), (.var .x 4), (.var (.i .i64) 6)]))) (.or (.cmp .eql (.dv .rem .i64 (.var (.i .i64) 7) 3) (.lit (.i .i64) 0)) (.and (.app .b 24 1000000 [(.var (.i .i64) 0), (.var .x 1), (.var .x 2), (.var (.i .i64) 6)]) (.and (.app .b 51 1000000 [(.var (.i .i64) 3), (.var .x 4), (.var (.i .i64) 6)]) (.app .b 47 1000000 [(.app .x 24 3 [(.var (.i .i64) 0), (.var .x 1), (.var .x 2), (.var (.i .i64) 6)]), (.app .x 51 2 [(.var (.i .i64) 3), (.var .x 4), (.var (.i .i64) 6)])]))))))) (.and (.and (.not (.and (.not (.cmp .eql (.dv .rem .i64 (.var (.i .i64) 7) 2) (.lit (.i .i64) 0))) (.and (.not (.cmp .eql (.dv .rem .i64 (.var (.i .i64) 7) 3) (.lit (.i .i64) 0))) (.not (.app .b 47 0 [(.app .x 24 3 [(.var (.i .i64) 0), (.var .x 1), (.var .x 2), (.var (.i .i64) 6)]), (.app .x 51 2 [(.var (.i .i64) 3), (.var .x 4), (.var (.i .i64) 6)])]))))) (.cmp .eql (.ite (.cmp .eql (.dv .rem .i64 (.var (.i .i64) 7) 2) (.lit (.i .i64) 0)) (.app (.i .i64) 21 3 [(.var (.i .i64) 0), (.var .x 1), (.var .x 2), (.var (.i .i64) 6), (.var (.i .i64) 7)]) (.ite (.cmp .eql (.dv .rem .i64 (.var (.i .i64) 7) 3) (.lit (.i .i64) 0)) (.app (.i .i64) 22 3 [(.var (.i .i64) 0), (.var .x 1), (.var .x 2), (.var (.i .i64) 6)]) (.app (.i .i64) 24 4 [(.var (.i .i64) 0), (.var .x 1), (.var .x 2), (.var (.i .i64) 6)]))) (.ite (.cmp .eql (.dv .rem .i64 (.var (.i .i64) 7) 2) (.lit (.i .i64) 0)) (.app (.i .i64) 53 2 [(.var (.i .i64) 3), (.var .x 4), (.var (.i .i64) 6), (.var (.i .i64) 7)]) (.ite (.cmp .eql (.dv .rem .i64 (.var (.i .i64) 7) 3) (.lit (.i .i64) 0)) (.app (.i .i64) 49 2 [(.var (.i .i64) 3), (.var .x 4), (.var (.i .i64) 6)]) (.app (.i .i64) 51 3 [(.var (.i .i64) 3), (.var .x 4), (.var (.i .i64) 6)]))))) (.ite (.and (.not (.cmp .eql (.dv .rem .i64 (.var (.i .i64) 7) 2) (.lit (.i .i64) 0))) (.and (.not (.cmp .eql (.dv .rem .i64 (.var (.i .i64) 7) 3) (.lit (.i .i64) 0))) (.not (.app .b 47 0 [(.app .x 24 3 [(.var (.i .i64) 0), (.var .x 1), (.var .x 2), (.var (.i .i64) 6)]), (.app .x 51 2 [(.var (.i .i64) 3), (.var .x 4), (.var (.i .i64) 6)])])))) (.or (.and (.not (.cmp .eql (.dv .rem .i64 (.var (.i .i64) 7) 2) (.lit (.i .i64) 0))) (.and (.not (.cmp .eql (.dv .rem .i64 (.var (.i .i64) 7) 3) (.lit (.i .i64) 0))) (.not (.app .b 47 0 [(.app .x 24 3 [(.var (.i .i64) 0), (.var .x 1), (.var .x 2), (.var (.i .i64) 6)]), (.app .x 51 2 [(.var (.i .i64) 3), (.var .x 4), (.var (.i .i64) 6)])])))) (.and (.not (.cmp .eql (.dv .rem .i64 (.var (.i .i64) 7) 2) (.lit (.i .i64) 0))) (.not (.cmp .eql (.dv .rem .i64 (.var (.i .i64) 7) 3) (.lit (.i .i64) 0))))) (.ite (.cmp .eql (.dv .rem .i64 (.var (.i .i64) 7) 2) (.lit (.i .i64) 0)) (.and (.not (.and (.not (.cmp .eql (.dv .rem .i64 (.var (.i .i64) 7) 2) (.lit (.i .i64) 0))) (.and (.not (.cmp .eql (.dv .rem .i64 (.var (.i .i64) 7) 3) (.lit (.i .i64) 0))) (.not (.app .b 47 0 [(.app .x 24 3 [(.var (.i .i64) 0), (.var .x 1), (.var .x 2), (.var (.i .i64) 6)]), (.app .x 51 2 [(.var (.i .i64) 3), (.var .x 4), (.var (.i .i64) 6)])]))))) (.cmp .eql (.dv .rem .i64 (.var (.i .i64) 7) 2) (.lit (.i .i64) 0))) (.ite (.cmp .eql (.dv .rem .i64 (.var (.i .i64) 7) 3) (.lit (.i .i64) 0)) (.and (.not (.and (.not (.cmp .eql (.dv .rem .i64 (.var (.i .i64) 7) 2) (.lit (.i .i64) 0))) (.and (.not (.cmp .eql (.dv .rem .i64 (.var (.i .i64) 7) 3) (.lit (.i .i64) 0))) (.not (.app .b 47 0 [(.app .x 24 3 [(.var (.i .i64) 0), (.var .x 1), (.var .x 2), (.var (.i .i64) 6)]), (.app .x 51 2 [(.var (.i .i64) 3), (.var .x 4), (.var (.i .i64) 6)])]))))) (.and (.not (.cmp .eql (.dv .rem .i64 (.var (.i .i64) 7) 2) (.lit (.i .i64) 0))) (.cmp .eql (.dv .rem .i64 (.var (.i .i64) 7) 3) (.lit (.i .i64) 0)))) (.or (.and (.not (.cmp .eql (.dv .rem .i64 (.var (.i .i64) 7) 2) (.lit (.i .i64) 0))) (.and (.not (.cmp .eql (.dv .rem .i64 (.var (.i .i64) 7) 3) (.lit (.i .i64) 0))) (.not (.app .b 47 0 [(.app .x 24 3 [(.var (.i .i64) 0), (.var .x 1), (.var .x 2), (.var (.i .i64) 6)]), (.app .x 51 2 [(.var (.i .i64) 3), (.var .x 4), (.var (.i .i64) 6)])])))) (.and (.not (.cmp .eql (.dv .rem .i64 (.var (.i .i64) 7) 2) (.lit (.i .i64) 0))) (.not (.cmp .eql (.dv .rem .i64 (.var (.i .i64) 7) 3) (.lit (.i .i64) 0))))))))))
def es_52 : List E := [(.ite (.and (.not (.cmp .eql (.dv .rem .i64 (.var (.i .i64) 7) 2) (.lit (.i .i64) 0))) (.and (.not (.cmp .eql (.dv .rem .i64 (.var (.i .i64) 7) 3) (.lit (.i .i64) 0))) (.not (.app .b 47 0 [(.app .x 24 3 [(.var (.i .i64) 0), (.var .x 1), (.var .x 2), (.var (.i .i64) 6)]), (.app .x 51 2 [(.var (.i .i64) 3), (.var .x 4), (.var (.i .i64) 6)])])))) (.app (.i .i64) 24 0 [(.var (.i .i64) 0), (.var .x 1), (.var .x 2), (.var (.i .i64) 6)]) (.ite (.cmp .eql (.dv .rem .i64 (.var (.i .i64) 7) 2) (.lit (.i .i64) 0)) (.app (.i .i64) 21 0 [(.var (.i .i64) 0), (.var .x 1), (.var .x 2), (.var (.i .i64) 6), (.var (.i .i64) 7)]) (.ite (.cmp .eql (.dv .rem .i64 (.var (.i .i64) 7) 3) (.lit (.i .i64) 0)) (.app (.i .i64) 22 0 [(.var (.i .i64) 0), (.var .x 1), (.var .x 2), (.var (.i .i64) 6)]) (.app (.i .i64) 24 0 [(.var (.i .i64) 0), (.var .x 1), (.var .x 2), (.var (.i .i64) 6)])))), (.ite (.and (.not (.cmp .eql (.dv .rem .i64 (.var (.i .i64) 7) 2) (.lit (.i .i64) 0))) (.and (.not (.cmp .eql (.dv .rem .i64 (.var (.i .i64) 7) 3) (.lit (.i .i64) 0))) (.not (.app .b 47 0 [(.app .x 24 3 [(.var (.i .i64) 0), (.var .x 1), (.var .x 2), (.var (.i .i64) 6)]), (.app .x 51 2 [(.var (.i .i64) 3), (.var .x 4), (.var (.i .i64) 6)])])))) (.app .x 24 1 [(.var (.i .i64) 0), (.var .x 1), (.var .x 2), (.var (.i .i64) 6)]) (.ite (.cmp .eql (.dv .rem .i64 (.var (.i .i64) 7) 2) (.lit (.i .i64) 0)) (.app .x 21 1 [(.var (.i .i64) 0), (.var .x 1), (.var .x 2), (.var (.i .i64) 6), (.var (.i .i64) 7)]) (.ite (.cmp .eql (.dv .rem .i64 (.var (.i .i64) 7) 3) (.lit (.i .i64) 0)) (.app .x 22 1 [(.var (.i .i64) 0), (.var .x 1), (.var .x 2), (.var (.i .i64) 6)]) (.app .x 24 1 [(.var (.i .i64) 0), (.var .x 1), (.var .x 2), (.var (.i .i64) 6)])))), (.ite (.and (.not (.cmp .eql (.dv .rem .i64 (.var (.i .i64) 7) 2) (.lit (.i .i64) 0))) (.and (.not (.cmp .eql (.dv .rem .i64 (.var (.i .i64) 7) 3) (.lit (.i .i64) 0))) (.not (.app .b 47 0 [(.app .x 24 3 [(.var (.i .i64) 0), (.var .x 1), (.var .x 2), (.var (.i .i64) 6)]), (.app .x 51 2 [(.var (.i .i64) 3), (.var .x 4), (.var (.i .i64) 6)])])))) (.app .x 24 2 [(.var (.i .i64) 0), (.var .x 1), (.var .x 2), (.var (.i .i64) 6)]) (.ite (.cmp .eql (.dv .rem .i64 (.var (.i .i64) 7) 2) (.lit (.i .i64) 0)) (.app .x 21 2 [(.var (.i .i64) 0), (.var .x 1), (.var .x 2), (.var (.i .i64) 6), (.var (.i .i64) 7)]) (.ite (.cmp .eql (.dv .rem .i64 (.var (.i .i64) 7) 3) (.lit (.i .i64) 0)) (.app .x 22 2 [(.var (.i .i64) 0), (.var .x 1), (.var .x 2), (.var (.i .i64) 6)]) (.app .x 24 2 [(.var (.i .i64) 0), (.var .x 1), (.var .x 2), (.var (.i .i64) 6)])))), (.ite (.and (.not (.cmp .eql (.dv .rem .i64 (.var (.i .i64) 7) 2) (.lit (.i .i64) 0))) (.and (.not (.cmp .eql (.dv .rem .i64 (.var (.i .i64) 7) 3) (.lit (.i .i64) 0))) (.not (.app .b 47 0 [(.app .x 24 3 [(.var (.i .i64) 0), (.var .x 1), (.var .x 2), (.var (.i .i64) 6)]), (.app .x 51 2 [(.var (.i .i64) 3), (.var .x 4), (.var (.i .i64) 6)])])))) (.app (.i .i64) 51 0 [(.var (.i .i64) 3), (.var .x 4), (.var (.i .i64) 6)]) (.ite (.cmp .eql (.dv .rem .i64 (.var (.i .i64) 7) 2) (.lit (.i .i64) 0)) (.app (.i .i64) 53 0 [(.var (.i .i64) 3), (.var .x 4), (.var (.i .i64) 6), (.var (.i .i64) 7)]) (.ite (.cmp .eql (.dv .rem .i64 (.var (.i .i64) 7) 3) (.lit (.i .i64) 0)) (.app (.i .i64) 49 0 [(.var (.i .i64) 3), (.var .x 4), (.var (.i .i64) 6)]) (.app (.i .i64) 51 0 [(.var (.i .i64) 3), (.var .x 4), (.var (.i .i64) 6)])))), (.ite (.and (.not (.cmp .eql (.dv .rem .i64 (.var (.i .i64) 7) 2) (.lit (.i .i64) 0))) (.and (.not (.cmp .eql (.dv .rem .i64 (.var (.i .i64) 7) 3) (.lit (.i .i64) 0))) (.not (.app .b 47 0 [(.app .x 24 3 [(.var (.i .i64) 0), (.var .x 1), (.var .x 2), (.var (.i .i64) 6)]), (.app .x 51 2 [(.var (.i .i64) 3), (.var .x 4), (.var (.i .i64) 6)])])))) (.app .x 51 1 [(.var (.i .i64) 3), (.var .x 4), (.var (.i .i64) 6)]) (.ite (.cmp .eql (.dv .rem .i64 (.var (.i .i64) 7) 2) (.lit (.i .i64) 0)) (.app .x 53 1 [(.var (.i .i64) 3), (.var .x 4), (.var (.i .i64) 6), (.var (.i .i64) 7)]) (.ite (.cmp .eql (.dv .rem .i64 (.var (.i .i64) 7) 3) (.lit (.i .i64) 0)) (.app .x 49 1 [(.var (.i .i64) 3), (.var .x 4), (.var (.i .i64) 6)]) (.app .x 51 1 [(.var (.i .i64) 3), (.var .x 4), (.var (.i .i64) 6)]))))]
theorem ev_52 : evE Try.prog G0 (tabOf cU0.fs) (ltOf cU0.ls) 40 10 e52 = some (ob_52, es_52) := by kernel_rfl

def ob_37 : E := (.and (.and (.and (.app .b 15 1000000 [(.var (.i .i64) 6), (.lit (.i .i64) 16)]) (.app .b 15 1000000 [(.var (.i .i64) 7), (.lit (.i .i64) 600)])) (.and (.and (.or (.not (.cmp .eql (.dv .rem .u8 (.var (.i .u8) 5) 8) (.lit (.i .u8) 4))) (.and (.app .b 22 1000000 [(.var (.i .i64) 0), (.var .x 1), (.var .x 2), (.app (.i .i64) 15 0 [(.var (.i .i64) 6), (.lit (.i .i64) 16)])]) (.app .b 49 1000000 [(.var (.i .i64) 3), (.var .x 4), (.app (.i .i64) 15 0 [(.var (.i .i64) 6), (.lit (.i .i64) 16)])]))) (.or (.cmp .eql (.dv .rem .u8 (.var (.i .u8) 5) 8) (.lit (.i .u8) 4)) (.and (.or (.not (.cmp .eql (.dv .rem .u8 (.var (.i .u8) 5) 8) (.lit (.i .u8) 5))) (.and (.app .b 16 1000000 [(.var (.i .i64) 0), (.var .x 1), (.var .x 2)]) (.app .b 50 1000000 [(.var (.i .i64) 3), (.var .x 4)]))) (.or (.cmp .eql (.dv .rem .u8 (.var (.i .u8) 5) 8) (.lit (.i .u8) 5)) (.and (.or (.not (.cmp .eql (.dv .rem .u8 (.var (.i .u8) 5) 8) (.lit (.i .u8) 6))) (.and (.app .b 24 1000000 [(.var (.i .i64) 0), (.var .x 1), (.var .x 2), (.bin .add .i64 (.var (.i .i64) 3) (.app (.i .i64) 15 0 [(.var (.i .i64) 7), (.lit (.i .i64) 600)]))]) (.app .b 51 1000000 [(.var (.i .i64) 3), (.var .x 4), (.bin .add .i64 (.var (.i .i64) 3) (.app (.i .i64) 15 0 [(.var (.i .i64) 7), (.lit (.i .i64) 600)]))]))) (.or (.cmp .eql (.dv .rem .u8 (.var (.i .u8) 5) 8) (.lit (.i .u8) 6)) (.and (.or (.not (.cmp .eql (.dv .rem .u8 (.var (.i .u8) 5) 8) (.lit (.i .u8) 7))) (.app .b 52 1000000 [(.var (.i .i64) 0), (.var .x 1), (.var .x 2), (.var (.i .i64) 3), (.var .x 4), (.var (.i .u8) 5), (.var (.i .i64) 6), (.var (.i .i64) 7)])) (.or (.cmp .eql (.dv .rem .u8 (.var (.i .u8) 5) 8) (.lit (.i .u8) 7)) (.and (.app .b 21 1000000 [(.var (.i .i64) 0), (.var .x 1), (.var .x 2), (.app (.i .i64) 15 0 [(.var (.i .i64) 6), (.lit (.i .i64) 16)]), (.bin .add .i64 (.bin .add .i64 (.var (.i .i64) 3) (.lit (.i .i64) 1)) (.app (.i .i64) 15 0 [(.var (.i .i64) 7), (.lit (.i .i64) 600)]))]) (.app .b 53 1000000 [(.var (.i .i64) 3), (.var .x 4), (.app (.i .i64) 15 0 [(.var (.i .i64) 6), (.lit (.i .i64) 16)]), (.bin .add .i64 (.bin .add .i64 (.var (.i .i64) 3) (.lit (.i .i64) 1)) (.app (.i .i64) 15 0 [(.var (.i .i64) 7), (.lit (.i .i64) 600)]))])))))))))) (.or (.not (.or (.cmp .eql (.dv .rem .u8 (.var (.i .u8) 5) 8) (.lit (.i .u8) 4)) (.or (.cmp .eql (.dv .rem .u8 (.var (.i .u8) 5) 8) (.lit (.i .u8) 5)) (.or (.cmp .eql (.dv .rem .u8 (.var (.i .u8) 5) 8) (.lit (.i .u8) 6)) (.not (.cmp .eql (.dv .rem .u8 (.var (.i .u8) 5) 8) (.lit (.i .u8) 7))))))) (.or (.not (.cmp .eql (.ite (.cmp .eql (.dv .rem .u8 (.var (.i .u8) 5) 8) (.lit (.i .u8) 4)) (.app (.i .i64) 22 3 [(.var (.i .i64) 0), (.var .x 1), (.var .x 2), (.app (.i .i64) 15 0 [(.var (.i .i64) 6), (.lit (.i .i64) 16)])]) (.ite (.cmp .eql (.dv .rem .u8 (.var (.i .u8) 5) 8) (.lit (.i .u8) 5)) (.app (.i .i64) 16 4 [(.var (.i .i64) 0), (.var .x 1), (.var .x 2)]) (.ite (.cmp .eql (.dv .rem .u8 (.var (.i .u8) 5) 8) (.lit (.i .u8) 6)) (.app (.i .i64) 24 4 [(.var (.i .i64) 0), (.var .x 1), (.var .x 2), (.bin .add .i64 (.var (.i .i64) 3) (.app (.i .i64) 15 0 [(.var (.i .i64) 7), (.lit (.i .i64) 600)]))]) (.app (.i .i64) 21 3 [(.var (.i .i64) 0), (.var .x 1), (.var .x 2), (.app (.i .i64) 15 0 [(.var (.i .i64) 6), (.lit (.i .i64) 16)]), (.bin .add .i64 (.bin .add .i64 (.var (.i .i64) 3) (.lit (.i .i64) 1)) (.app (.i .i64) 15 0 [(.var (.i .i64) 7), (.lit (.i .i64) 600)]))])))) (.ite (.cmp .eql (.dv .rem .u8 (.var (.i .u8) 5) 8) (.lit (.i .u8) 4)) (.app (.i .i64) 49 2 [(.var (.i .i64) 3), (.var .x 4), (.app (.i .i64) 15 0 [(.var (.i .i64) 6), (.lit (.i .i64) 16)])]) (.ite (.cmp .eql (.dv .rem .u8 (.var (.i .u8) 5) 8) (.lit (.i .u8) 5)) (.lit (.i .i64) 0) (.ite (.cmp .eql (.dv .rem .u8 (.var (.i .u8) 5) 8) (.lit (.i .u8) 6)) (.app (.i .i64) 51 3 [(.var (.i .i64) 3), (.var .x 4), (.bin .add .i64 (.var (.i .i64) 3) (.app (.i .i64) 15 0 [(.var (.i .i64) 7), (.lit (.i .i64) 600)]))]) (.app (.i .i64) 53 2 [(.var (.i .i64) 3), (.var .x 4), (.app (.i .i64) 15 0 [(.var (.i .i64) 6), (.lit (.i .i64) 16)]), (.bin .add .i64 (.bin .add .i64 (.var (.i .i64) 3) (.lit (.i .i64) 1)) (.app (.i .i64) 15 0 [(.var (.i .i64) 7), (.lit (.i .i64) 600)]))])))))) (.and (.or (.cmp .eql (.dv .rem .u8 (.var (.i .u8) 5) 8) (.lit (.i .u8) 4)) (.ite (.cmp .eql (.dv .rem .u8 (.var (.i .u8) 5) 8) (.lit (.i .u8) 5)) (.and (.not (.cmp .eql (.dv .rem .u8 (.var (.i .u8) 5) 8) (.lit (.i .u8) 4))) (.cmp .eql (.dv .rem .u8 (.var (.i .u8) 5) 8) (.lit (.i .u8) 5))) (.or (.not (.cmp .eql (.dv .rem .u8 (.var (.i .u8) 5) 8) (.lit (.i .u8) 6))) (.and (.not (.cmp .eql (.dv .rem .u8 (.var (.i .u8) 5) 8) (.lit (.i .u8) 4))) (.and (.not (.cmp .eql (.dv .rem .u8 (.var (.i .u8) 5) 8) (.lit (.i .u8) 5))) (.cmp .eql (.dv .rem .u8 (.var (.i .u8) 5) 8) (.lit (.i .u8) 6))))))) (.app .b 47 1000000 [(.ite (.cmp .eql (.dv .rem .u8 (.var (.i .u8) 5) 8) (.lit (.i .u8) 4)) (.app .x 0 2 []) (.ite (.cmp .eql (.dv .rem .u8 (.var (.i .u8) 5) 8) (.lit (.i .u8) 5)) (.app .x 16 3 [(.var (.i .i64) 0), (.var .x 1), (.var .x 2)]) (.ite (.cmp .eql (.dv .rem .u8 (.var (.i .u8) 5) 8) (.lit (.i .u8) 6)) (.app .x 24 3 [(.var (.i .i64) 0), (.var .x 1), (.var .x 2), (.bin .add .i64 (.var (.i .i64) 3) (.app (.i .i64) 15 0 [(.var (.i .i64) 7), (.lit (.i .i64) 600)]))]) (.app .x 0 2 [])))), (.ite (.cmp .eql (.dv .rem .u8 (.var (.i .u8) 5) 8) (.lit (.i .u8) 4)) (.app .x 0 2 []) (.ite (.cmp .eql (.dv .rem .u8 (.var (.i .u8) 5) 8) (.lit (.i .u8) 5)) (.app .x 50 2 [(.var (.i .i64) 3), (.var .x 4)]) (.ite (.cmp .eql (.dv .rem .u8 (.var (.i .u8) 5) 8) (.lit (.i .u8) 6)) (.app .x 51 2 [(.var (.i .i64) 3), (.var .x 4), (.bin .add .i64 (.var (.i .i64) 3) (.app (.i .i64) 15 0 [(.var (.i .i64) 7), (.lit (.i .i64) 600)]))]) (.app .x 0 2 []))))])))))) (.and (.or (.and (.not (.cmp .eql (.dv .rem .u8 (.var (.i .u8) 5) 8) (.lit (.i .u8) 4))) (.and (.not (.cmp .eql (.dv .rem .u8 (.var (.i .u8) 5) 8) (.lit (.i .u8) 5))) (.and (.not (.cmp .eql (.dv .rem .u8 (.var (.i .u8) 5) 8) (.lit (.i .u8) 6))) (.cmp .eql (.dv .rem .u8 (.var (.i .u8) 5) 8) (.lit (.i .u8) 7))))) (.and (.cmp .eql (.ite (.cmp .eql (.dv .rem .u8 (.var (.i .u8) 5) 8) (.lit (.i .u8) 4)) (.app (.i .i64) 22 3 [(.var (.i .i64) 0), (.var .x 1), (.var .x 2), (.app (.i .i64) 15 0 [(.var (.i .i64) 6), (.lit (.i .i64) 16)])]) (.ite (.cmp .eql (.dv .rem .u8 (.var (.i .u8) 5) 8) (.lit (.i .u8) 5)) (.app (.i .i64) 16 4 [(.var (.i .i64) 0), (.var .x 1), (.var .x 2)]) (.ite (.cmp .eql (.dv .rem .u8 (.var (.i .u8) 5) 8) (.lit (.i .u8) 6)) (.app (.i .i64) 24 4 [(.var (.i .i64) 0), (.var .x 1), (.var .x 2), (.bin .add .i64 (.var (.i .i64) 3) (.app (.i .i64) 15 0 [(.var (.i .i64) 7), (.lit (.i .i64) 600)]))]) (.app (.i .i64) 21 3 [(.var (.i .i64) 0), (.var .x 1), (.var .x 2), (.app (.i .i64) 15 0 [(.var (.i .i64) 6), (.lit (.i .i64) 16)]), (.bin .add .i64 (.bin .add .i64 (.var (.i .i64) 3) (.lit (.i .i64) 1)) (.app (.i .i64) 15 0 [(.var (.i .i64) 7), (.lit (.i .i64) 600)]))])))) (.ite (.cmp .eql (.dv .rem .u8 (.var (.i .u8) 5) 8) (.lit (.i .u8) 4)) (.app (.i .i64) 49 2 [(.var (.i .i64) 3), (.var .x 4), (.app (.i .i64) 15 0 [(.var (.i .i64) 6), (.lit (.i .i64) 16)])]) (.ite (.cmp .eql (.dv .rem .u8 (.var (.i .u8) 5) 8) (.lit (.i .u8) 5)) (.lit (.i .i64) 0) (.ite (.cmp .eql (.dv .rem .u8 (.var (.i .u8) 5) 8) (.lit (.i .u8) 6)) (.app (.i .i64) 51 3 [(.var (.i .i64) 3), (.var .x 4), (.bin .add .i64 (.var (.i .i64) 3) (.app (.i .i64) 15 0 [(.var (.i .i64) 7), (.lit (.i .i64) 600)]))]) (.app (.i .i64) 53 2 [(.var (.i .i64) 3), (.var .x 4), (.app (.i .i64) 15 0 [(.var (.i .i64) 6), (.lit (.i .i64) 16)]), (.bin .add .i64 (.bin .add .i64 (.var (.i .i64) 3) (.lit (.i .i64) 1)) (.app (.i .i64) 15 0 [(.var (.i .i64) 7), (.lit (.i .i64) 600)]))]))))) (.app .b 47 0 [(.ite (.cmp .eql (.dv .rem .u8 (.var (.i .u8) 5) 8) (.lit (.i .u8) 4)) (.app .x 0 2 []) (.ite (.cmp .eql (.dv .rem .u8 (.var (.i .u8) 5) 8) (.lit (.i .u8) 5)) (.app .x 16 3 [(.var (.i .i64) 0), (.var .x 1), (.var .x 2)]) (.ite (.cmp .eql (.dv .rem .u8 (.var (.i .u8) 5) 8) (.lit (.i .u8) 6)) (.app .x 24 3 [(.var (.i .i64) 0), (.var .x 1), (.var .x 2), (.bin .add .i64 (.var (.i .i64) 3) (.app (.i .i64) 15 0 [(.var (.i .i64) 7), (.lit (.i .i64) 600)]))]) (.app .x 0 2 [])))), (.ite (.cmp .eql (.dv .rem .u8 (.var (.i .u8) 5) 8) (.lit (.i .u8) 4)) (.app .x 0 2 []) (.ite (.cmp .eql (.dv .rem .u8 (.var (.i .u8) 5) 8) (.lit (.i .u8) 5)) (.app .x 50 2 [(.var (.i .i64) 3), (.var .x 4)]) (.ite (.cmp .eql (.dv .rem .u8 (.var (.i .u8) 5) 8) (.lit (.i .u8) 6)) (.app .x 51 2 [(.var (.i .i64) 3), (.var .x 4), (.bin .add .i64 (.var (.i .i64) 3) (.app (.i .i64) 15 0 [(.var (.i .i64) 7), (.lit (.i .i64) 600)]))]) (.app .x 0 2 []))))]))) (.ite (.and (.not (.cmp .eql (.dv .rem .u8 (.var (.i .u8) 5) 8) (.lit (.i .u8) 4))) (.and (.not (.cmp .eql (.dv .rem .u8 (.var (.i .u8) 5) 8) (.lit (.i .u8) 5))) (.and (.not (.cmp .eql (.dv .rem .u8 (.var (.i .u8) 5) 8) (.lit (.i .u8) 6))) (.cmp .eql (.dv .rem .u8 (.var (.i .u8) 5) 8) (.lit (.i .u8) 7))))) (.and (.not (.cmp .eql (.dv .rem .u8 (.var (.i .u8) 5) 8) (.lit (.i .u8) 4))) (.and (.not (.cmp .eql (.dv .rem .u8 (.var (.i .u8) 5) 8) (.lit (.i .u8) 5))) (.and (.not (.cmp .eql (.dv .rem .u8 (.var (.i .u8) 5) 8) (.lit (.i .u8) 6))) (.cmp .eql (.dv .rem .u8 (.var (.i .u8) 5) 8) (.lit (.i .u8) 7))))) (.ite (.cmp .eql (.dv .rem .u8 (.var (.i .u8) 5) 8) (.lit (.i .u8) 4)) (.and (.not (.and (.not (.cmp .eql (.dv .rem .u8 (.var (.i .u8) 5) 8) (.lit (.i .u8) 4))) (.and (.not (.cmp .eql (.dv .rem .u8 (.var (.i .u8) 5) 8) (.lit (.i .u8) 5))) (.and (.not (.cmp .eql (.dv .rem .u8 (.var (.i .u8) 5) 8) (.lit (.i .u8) 6))) (.cmp .eql (.dv .rem .u8 (.var (.i .u8) 5) 8) (.lit (.i .u8) 7)))))) (.cmp .eql (.dv .rem .u8 (.var (.i .u8) 5) 8) (.lit (.i .u8) 4))) (.ite (.cmp .eql (.dv .rem .u8 (.var (.i .u8) 5) 8) (.lit (.i .u8) 5)) (.and (.not (.and (.not (.cmp .eql (.dv .rem .u8 (.var (.i .u8) 5) 8) (.lit (.i .u8) 4))) (.and (.not (.cmp .eql (.dv .rem .u8 (.var (.i .u8) 5) 8) (.lit (.i .u8) 5))) (.and (.not (.cmp .eql (.dv .rem .u8 (.var (.i .u8) 5) 8) (.lit (.i .u8) 6))) (.cmp .eql (.dv .rem .u8 (.var (.i .u8) 5) 8) (.lit (.i .u8) 7)))))) (.and (.not (.cmp .eql (.dv .rem .u8 (.var (.i .u8) 5) 8) (.lit (.i .u8) 4))) (.cmp .eql (.dv .rem .u8 (.var (.i .u8) 5) 8) (.lit (.i .u8) 5)))) (.ite (.cmp .eql (.dv .rem .u8 (.var (.i .u8) 5) 8) (.lit (.i .u8) 6)) (.and (.not (.and (.not (.cmp .eql (.dv .rem .u8 (.var (.i .u8) 5) 8) (.lit (.i .u8) 4))) (.and (.not (.cmp .eql (.dv .rem .u8 (.var (.i .u8) 5) 8) (.lit (.i .u8) 5))) (.and (.not (.cmp .eql (.dv .rem .u8 (.var (.i .u8) 5) 8) (.lit (.i .u8) 6))) (.cmp .eql (.dv .rem .u8 (.var (.i .u8) 5) 8) (.lit (.i .u8) 7)))))) (.and (.not (.cmp .eql (.dv .rem .u8 (.var (.i .u8) 5) 8) (.lit (.i .u8) 4))) (.and (.not (.cmp .eql (.dv .rem .u8 (.var (.i .u8) 5) 8) (.lit (.i .u8) 5))) (.cmp .eql (.dv .rem .u8 (.var (.i .u8) 5) 8) (.lit (.i .u8) 6))))) (.and (.not (.and (.not (.cmp .eql (.dv .rem .u8 (.var (.i .u8) 5) 8) (.lit (.i .u8) 4))) (.and (.not (.cmp .eql (.dv .rem .u8 (.var (.i .u8) 5) 8) (.lit (.i .u8) 5))) (.and (.not (.cmp .eql (.dv .rem .u8 (.var (.i .u8) 5) 8) (.lit (.i .u8) 6))) (.cmp .eql (.dv .rem .u8 (.var (.i .u8) 5) 8) (.lit (.i .u8) 7)))))) (.and (.not (.cmp .eql (.dv .rem .u8 (.var (.i .u8) 5) 8) (.lit (.i .u8) 4))) (.and (.not (.cmp .eql (.dv .rem .u8 (.var (.i .u8) 5) 8) (.lit (.i .u8) 5))) (.not (.cmp .eql (.dv .rem .u8 (.var (.i .u8) 5) 8) (.lit (.i .u8) 6))))))))))))
def es_37 : List E := [(.ite (.and (.not (.cmp .eql (.dv .rem .u8 (.var (.i .u8) 5) 8) (.lit (.i .u8) 4))) (.and (.not (.cmp .eql (.dv .rem .u8 (.var (.i .u8) 5) 8) (.lit (.i .u8) 5))) (.and (.not (.cmp .eql (.dv .rem .u8 (.var (.i .u8) 5) 8) (.lit (.i .u8) 6))) (.cmp .eql (.dv .rem .u8 (.var (.i .u8) 5) 8) (.lit (.i .u8) 7))))) (.app (.i .i64) 52 0 [(.var (.i .i64) 0), (.var .x 1), (.var .x 2), (.var (.i .i64) 3), (.var .x 4), (.var (.i .u8) 5), (.var (.i .i64) 6), (.var (.i .i64) 7)]) (.ite (.cmp .eql (.dv .rem .u8 (.var (.i .u8) 5) 8) (.lit (.i .u8) 4)) (.app (.i .i64) 22 0 [(.var (.i .i64) 0), (.var .x 1), (.var .x 2), (.app (.i .i64) 15 0 [(.var (.i .i64) 6), (.lit (.i .i64) 16)])]) (.ite (.cmp .eql (.dv .rem .u8 (.var (.i .u8) 5) 8) (.lit (.i .u8) 5)) (.app (.i .i64) 16 0 [(.var (.i .i64) 0), (.var .x 1), (.var .x 2)]) (.ite (.cmp .eql (.dv .rem .u8 (.var (.i .u8) 5) 8) (.lit (.i .u8) 6)) (.app (.i .i64) 24 0 [(.var (.i .i64) 0), (.var .x 1), (.var .x 2), (.bin .add .i64 (.var (.i .i64) 3) (.app (.i .i64) 15 0 [(.var (.i .i64) 7), (.lit (.i .i64) 600)]))]) (.app (.i .i64) 21 0 [(.var (.i .i64) 0), (.var .x 1), (.var .x 2), (.app (.i .i64) 15 0 [(.var (.i .i64) 6), (.lit (.i .i64) 16)]), (.bin .add .i64 (.bin .add .i64 (.var (.i .i64) 3) (.lit (.i .i64) 1)) (.app (.i .i64) 15 0 [(.var (.i .i64) 7), (.lit (.i .i64) 600)]))]))))), (.ite (.and (.not (.cmp .eql (.dv .rem .u8 (.var (.i .u8) 5) 8) (.lit (.i .u8) 4))) (.and (.not (.cmp .eql (.dv .rem .u8 (.var (.i .u8) 5) 8) (.lit (.i .u8) 5))) (.and (.not (.cmp .eql (.dv .rem .u8 (.var (.i .u8) 5) 8) (.lit (.i .u8) 6))) (.cmp .eql (.dv .rem .u8 (.var (.i .u8) 5) 8) (.lit (.i .u8) 7))))) (.app .x 52 1 [(.var (.i .i64) 0), (.var .x 1), (.var .x 2), (.var (.i .i64) 3), (.var .x 4), (.var (.i .u8) 5), (.var (.i .i64) 6), (.var (.i .i64) 7)]) (.ite (.cmp .eql (.dv .rem .u8 (.var (.i .u8) 5) 8) (.lit (.i .u8) 4)) (.app .x 22 1 [(.var (.i .i64) 0), (.var .x 1), (.var .x 2), (.app (.i .i64) 15 0 [(.var (.i .i64) 6), (.lit (.i .i64) 16)])]) (.ite (.cmp .eql (.dv .rem .u8 (.var (.i .u8) 5) 8) (.lit (.i .u8) 5)) (.app .x 16 1 [(.var (.i .i64) 0), (.var .x 1), (.var .x 2)]) (.ite (.cmp .eql (.dv .rem .u8 (.var (.i .u8) 5) 8) (.lit (.i .u8) 6)) (.app .x 24 1 [(.var (.i .i64) 0), (.var .x 1), (.var .x 2), (.bin .add .i64 (.var (.i .i64) 3) (.app (.i .i64) 15 0 [(.var (.i .i64) 7), (.lit (.i .i64) 600)]))]) (.app .x 21 1 [(.var (.i .i64) 0), (.var .x 1), (.var .x 2), (.app (.i .i64) 15 0 [(.var (.i .i64) 6), (.lit (.i .i64) 16)]), (.bin .add .i64 (.bin .add .i64 (.var (.i .i64) 3) (.lit (.i .i64) 1)) (.app (.i .i64) 15 0 [(.var (.i .i64) 7), (.lit (.i .i64) 600)]))]))))), (.ite (.and (.not (.cmp .eql (.dv .rem .u8 (.var (.i .u8) 5) 8) (.lit (.i .u8) 4))) (.and (.not (.cmp .eql (.dv .rem .u8 (.var (.i .u8) 5) 8) (.lit (.i .u8) 5))) (.and (.not (.cmp .eql (.dv .rem .u8 (.var (.i .u8) 5) 8) (.lit (.i .u8) 6))) (.cmp .eql (.dv .rem .u8 (.var (.i .u8) 5) 8) (.lit (.i .u8) 7))))) (.app .x 52 2 [(.var (.i .i64) 0), (.var .x 1), (.var .x 2), (.var (.i .i64) 3), (.var .x 4), (.var (.i .u8) 5), (.var (.i .i64) 6), (.var (.i .i64) 7)]) (.ite (.cmp .eql (.dv .rem .u8 (.var (.i .u8) 5) 8) (.lit (.i .u8) 4)) (.app .x 22 2 [(.var (.i .i64) 0), (.var .x 1), (.var .x 2), (.app (.i .i64) 15 0 [(.var (.i .i64) 6), (.lit (.i .i64) 16)])]) (.ite (.cmp .eql (.dv .rem .u8 (.var (.i .u8) 5) 8) (.lit (.i .u8) 5)) (.app .x 16 2 [(.var (.i .i64) 0), (.var .x 1), (.var .x 2)]) (.ite (.cmp .eql (.dv .rem .u8 (.var (.i .u8) 5) 8) (.lit (.i .u8) 6)) (.app .x 24 2 [(.var (.i .i64) 0), (.var .x 1), (.var .x 2), (.bin .add .i64 (.var (.i .i64) 3) (.app (.i .i64) 15 0 [(.var (.i .i64) 7), (.lit (.i .i64) 600)]))]) (.app .x 21 2 [(.var (.i .i64) 0), (.var .x 1), (.var .x 2), (.app (.i .i64) 15 0 [(.var (.i .i64) 6), (.lit (.i .i64) 16)]), (.bin .add .i64 (.bin .add .i64 (.var (.i .i64) 3) (.lit (.i .i64) 1)) (.app (.i .i64) 15 0 [(.var (.i .i64) 7), (.lit (.i .i64) 600)]))]))))), (.ite (.and (.not (.cmp .eql (.dv .rem .u8 (.var (.i .u8) 5) 8) (.lit (.i .u8) 4))) (.and (.not (.cmp .eql (.dv .rem .u8 (.var (.i .u8) 5) 8) (.lit (.i .u8) 5))) (.and (.not (.cmp .eql (.dv .rem .u8 (.var (.i .u8) 5) 8) (.lit (.i .u8) 6))) (.cmp .eql (.dv .rem .u8 (.var (.i .u8) 5) 8) (.lit (.i .u8) 7))))) (.app (.i .i64) 52 3 [(.var (.i .i64) 0), (.var .x 1), (.var .x 2), (.var (.i .i64) 3), (.var .x 4), (.var (.i .u8) 5), (.var (.i .i64) 6), (.var (.i .i64) 7)]) (.ite (.cmp .eql (.dv .rem .u8 (.var (.i .u8) 5) 8) (.lit (.i .u8) 4)) (.app (.i .i64) 49 0 [(.var (.i .i64) 3), (.var .x 4), (.app (.i .i64) 15 0 [(.var (.i .i64) 6), (.lit (.i .i64) 16)])]) (.ite (.cmp .eql (.dv .rem .u8 (.var (.i .u8) 5) 8) (.lit (.i .u8) 5)) (.app (.i .i64) 50 0 [(.var (.i .i64) 3), (.var .x 4)]) (.ite (.cmp .eql (.dv .rem .u8 (.var (.i .u8) 5) 8) (.lit (.i .u8) 6)) (.app (.i .i64) 51 0 [(.var (.i .i64) 3), (.var .x 4), (.bin .add .i64 (.var (.i .i64) 3) (.app (.i .i64) 15 0 [(.var (.i .i64) 7), (.lit (.i .i64) 600)]))]) (.app (.i .i64) 53 0 [(.var (.i .i64) 3), (.var .x 4), (.app (.i .i64) 15 0 [(.var (.i .i64) 6), (.lit (.i .i64) 16)]), (.bin .add .i64 (.bin .add .i64 (.var (.i .i64) 3) (.lit (.i .i64) 1)) (.app (.i .i64) 15 0 [(.var (.i .i64) 7), (.lit (.i .i64) 600)]))]))))), (.ite (.and (.not (.cmp .eql (.dv .rem .u8 (.var (.i .u8) 5) 8) (.lit (.i .u8) 4))) (.and (.not (.cmp .eql (.dv .rem .u8 (.var (.i .u8) 5) 8) (.lit (.i .u8) 5))) (.and (.not (.cmp .eql (.dv .rem .u8 (.var (.i .u8) 5) 8) (.lit (.i .u8) 6))) (.cmp .eql (.dv .rem .u8 (.var (.i .u8) 5) 8) (.lit (.i .u8) 7))))) (.app .x 52 4 [(.var (.i .i64) 0), (.var .x 1), (.var .x 2), (.var (.i .i64) 3), (.var .x 4), (.var (.i .u8) 5), (.var (.i .i64) 6), (.var (.i .i64) 7)]) (.ite (.cmp .eql (.dv .rem .u8 (.var (.i .u8) 5) 8) (.lit (.i .u8) 4)) (.app .x 49 1 [(.var (.i .i64) 3), (.var .x 4), (.app (.i .i64) 15 0 [(.var (.i .i64) 6), (.lit (.i .i64) 16)])]) (.ite (.cmp .eql (.dv .rem .u8 (.var (.i .u8) 5) 8) (.lit (.i .u8) 5)) (.app .x 50 1 [(.var (.i .i64) 3), (.var .x 4)]) (.ite (.cmp .eql (.dv .rem .u8 (.var (.i .u8) 5) 8) (.lit (.i .u8) 6)) (.app .x 51 1 [(.var (.i .i64) 3), (.var .x 4), (.bin .add .i64 (.var (.i .i64) 3) (.app (.i .i64) 15 0 [(.var (.i .i64) 7), (.lit (.i .i64) 600)]))]) (.app .x 53 1 [(.var (.i .i64) 3), (.var .x 4), (.app (.i .i64) 15 0 [(.var (.i .i64) 6), (.lit (.i .i64) 16)]), (.bin .add .i64 (.bin .add .i64 (.var (.i .i64) 3) (.lit (.i .i64) 1)) (.app (.i .i64) 15 0 [(.var (.i .i64) 7), (.lit (.i .i64) 600)]))])))))]
theorem ev_37 : evE Try.prog G0 (tabOf cU1.fs) (ltOf cU1.ls) 40 10 e37 = some (ob_37, es_37) := by kernel_rfl

theorem armX_ok {now tc mc L : Int} (i d : Int) (h : RQ now (dc tc) (dc mc) (dc L)) : RQ now (dc (fn21 1 [now, tc, mc, i, d])) (dc (fn21 2 [now, tc, mc, i, d])) (dc (fn53 1 [now, L, i, d])) ∧ fn21 0 [now, tc, mc, i, d] = now ∧ fn53 0 [now, L, i, d] = now ∧ fn53 2 [now, L, i, d] = fn21 3 [now, tc, mc, i, d] := by
  refine ⟨?_, rfl, rfl, rfl⟩
  show RQ now (dc (bif armB now i d then cd (insT [i, d] (delT i (dc tc))) else tc)) (dc (bif armB now i d then cd (putR 1 [i, d] (delR [i] (dc mc))) else mc)) (dc (bif armB now i d then cd (delT i (dc L) ++ [[i, d]]) else L))
  cases hb : armB now i d
  · exact h
  · simp only [cond_true, dc_cd]
    exact h.arm hb

theorem canX_ok {now tc mc L : Int} (i : Int) (h : RQ now (dc tc) (dc mc) (dc L)) : RQ now (dc (fn22 1 [now, tc, mc, i])) (dc (fn22 2 [now, tc, mc, i])) (dc (fn49 1 [now, L, i])) ∧ fn22 0 [now, tc, mc, i] = now ∧ fn49 0 [now, L, i] = now ∧ fn49 2 [now, L, i] = fn22 3 [now, tc, mc, i] := by
  refine ⟨?_, rfl, rfl, ?_⟩
  · show RQ now (dc (bif rightB i && hasM (dc mc) i then cd (delT i (dc tc)) else tc)) (dc (bif rightB i && hasM (dc mc) i then cd (delR [i] (dc mc)) else mc)) (dc (bif rightB i && hasL (dc L) i then cd (delT i (dc L)) else L))
    rw [h.has]
    cases rightB i && hasM (dc mc) i
    · exact h
    · simp only [cond_true, dc_cd]
      exact h.can i
  · show (bif rightB i then (bif hasL (dc L) i then (0 : Int) else 6) else 2) = bif rightB i then (bif hasM (dc mc) i then 0 else 6) else 2
    rw [h.has]

theorem toX_ok {now tc mc L : Int} (t : Int) (h : RQ now (dc tc) (dc mc) (dc L)) : RQ (fn24 0 [now, tc, mc, t]) (dc (fn24 1 [now, tc, mc, t])) (dc (fn24 2 [now, tc, mc, t])) (dc (fn51 1 [now, L, t])) ∧ fn51 0 [now, L, t] = fn24 0 [now, tc, mc, t] ∧ dc (fn51 2 [now, L, t]) = dc (fn24 3 [now, tc, mc, t]) ∧ fn51 3 [now, L, t] = fn24 4 [now, tc, mc, t] ∧ dc (fn24 3 [now, tc, mc, t]) = dueT (fn24 0 [now, tc, mc, t]) (dc tc) := by
  have z0 : fn24 0 [now, tc, mc, t] = bif toB now t then t else now := rfl
  have z1 : fn24 1 [now, tc, mc, t] = bif toB now t then cd (leftT t (dc tc)) else tc := rfl
  have z2 : fn24 2 [now, tc, mc, t] = bif toB now t then delC (dueT t (dc tc)) mc else mc := rfl
  have z3 : fn24 3 [now, tc, mc, t] = bif toB now t then cd (dueT t (dc tc)) else cd [] := rfl
  have y1 : fn51 1 [now, L, t] = bif toB now t then cd (leftT t (dc L)) else L := rfl
  have y2 : fn51 2 [now, L, t] = bif toB now t then cd (sortT (dueT t (dc L))) else cd [] := rfl
  refine ⟨?_, rfl, ?_, rfl, ?_⟩
  · rw [z0, z1, z2, y1]
    cases hb : toB now t
    · exact h
    · simp only [cond_true, dc_cd, dc_delC]
      simp only [toB, Bool.and_eq_true, Bool.not_eq_true', decide_eq_false_iff_not] at hb
      exact (h.to (by omega) (by omega)).1
  · rw [z3, y2]
    cases hb : toB now t
    · rfl
    · simp only [cond_true, dc_cd]
      simp only [toB, Bool.and_eq_true, Bool.not_eq_true', decide_eq_false_iff_not] at hb
      exact (h.to (by omega) (by omega)).2
  · rw [z3, z0]
    cases hb : toB now t
    · simp only [cond_false, dc_cd]
      exact (List.filter_eq_nil_iff.2 fun x hx => by have := (h.q.rng x hx).2.2.1; simp; omega).symm
    · simp only [cond_true, dc_cd]

theorem tickX_ok {now tc mc L : Int} (h : RQ now (dc tc) (dc mc) (dc L)) : RQ (fn16 0 [now, tc, mc]) (dc (fn16 1 [now, tc, mc])) (dc (fn16 2 [now, tc, mc])) (dc (fn50 1 [now, L])) ∧ fn50 0 [now, L] = fn16 0 [now, tc, mc] ∧ dc (fn50 2 [now, L]) = dc (fn16 3 [now, tc, mc]) ∧ fn16 4 [now, tc, mc] = 0 ∧ dc (fn16 3 [now, tc, mc]) = dueT (fn16 0 [now, tc, mc]) (dc tc) := by
  have ht := h.q.tim
  obtain ⟨k1, k2, k3⟩ := tickT_ok ht.2
  have e4 : fn16 4 [now, tc, mc] = 0 := by show (bif toB now (tickT now) then (0 : Int) else 2) = 0; rw [toB_ok k1 k3]; rfl
  obtain ⟨g1, g2, g3, g4, g5⟩ := toX_ok (tickT now) h
  by_cases hm : now = 1099511627776
  · have e : tickT now = now := by unfold tickT; rw [hm]; decide
    have hb : toB now now = true := toB_ok (by omega) (by omega)
    have hL : dueT now (dc tc) = [] := List.filter_eq_nil_iff.2 fun x hx => by have := (h.q.rng x hx).2.2.1; simp; omega
    have hK : leftT now (dc tc) = dc tc := List.filter_eq_self.2 fun x hx => by have := (h.q.rng x hx).2.2.1; simp; omega
    have f0 : fn16 0 [now, tc, mc] = now := by show (bif toB now (tickT now) then tickT now else now) = _; rw [e, hb]; rfl
    have f1 : fn16 1 [now, tc, mc] = cd (dc tc) := by show (bif toB now (tickT now) then cd (leftT (tickT now) (dc tc)) else tc) = _; rw [e, hb, hK]; rfl
    have f2 : fn16 2 [now, tc, mc] = mc := by show (bif toB now (tickT now) then delC (dueT (tickT now) (dc tc)) mc else mc) = _; rw [e, hb, hL]; rfl
    have f3 : fn16 3 [now, tc, mc] = cd [] := by show (bif toB now (tickT now) then cd (dueT (tickT now) (dc tc)) else cd []) = _; rw [e, hb, hL]; rfl
    have r0 : fn50 0 [now, L] = now := by show (if now = 1099511627776 then _ else _) = _; rw [if_pos hm]; rfl
    have r1 : fn50 1 [now, L] = L := by show (if now = 1099511627776 then _ else _) = _; rw [if_pos hm]; rfl
    have r2 : fn50 2 [now, L] = cd [] := by show (if now = 1099511627776 then _ else _) = _; rw [if_pos hm]; rfl
    rw [f0, f1, f2, f3, r0, r1, r2, dc_cd, dc_cd]
    exact ⟨h, rfl, rfl, e4, hL.symm⟩
  · have e : tickT now = now + 1 := by unfold tickT; split <;> omega
    have r : ∀ j, fn50 j [now, L] = fn51 j [now, L, now + 1] := fun j => by show (if now = 1099511627776 then _ else _) = _; rw [if_neg hm]; rfl
    rw [r 0, r 1, r 2, ← e]
    exact ⟨g1, g2, g3, e4, g5⟩

theorem cU0ok : cU0.OK Try.prog G0 := by
  have h1 : Ctx.OK Try.prog G0 ⟨e47 :: e51 :: e49 :: e53 :: cE.fs, []⟩ := (((cEok.addF ok53 rfl).addF ok49 rfl).addF ok51 rfl).addF ok47 rfl
  exact h1.sub rfl (by simp [cU0, cE]) (by simp [cU0])

theorem same47 {n t a b : Int} {T M : RL} (h : QI n T M) (e : dc b = dc a) (ha : dc a = dueT t T) : e47.pre [a, b] ∧ i2b (K.b.norm (e47.fn 0 [a, b])) = true := by
  have h1 := h.len
  have h2 : (dueT t T).length ≤ T.length := List.length_filter_le _ _
  refine ⟨?_, ?_⟩
  · show ((dc a).length : Int) < cap8 ∧ ((dc b).length : Int) < cap8 ∧ rowsOK tmK (dc a) ∧ rowsOK tmK (dc b)
    rw [e, ha]
    unfold cap8
    exact ⟨by omega, by omega, fun r hr => h.row r (List.mem_filter.1 hr).1, fun r hr => h.row r (List.mem_filter.1 hr).1⟩
  · show i2b (K.b.norm (b2i (dc a == dc b))) = true
    rw [e, beq_self_eq_true]; rfl

set_option maxHeartbeats 4000000 in
theorem ok52 : EntryOK Try.prog G0 e52 := cU0ok.entryP mixed ev_52 _ rfl _ rfl fun xs hf hp => by
  obtain ⟨l, hl, hF⟩ := ctx_P (l0 := cU0.l)
  show ob_52.tt cU0.l.F _ = true ∧ outsP e52.fn _ cU0.l.F _ _ _ _
  rw [hl]
  have F21_0 : ∀ xs, l.F 21 0 xs = e21.fn 0 xs := (hF e21 (by rfl) (by decide)).1 0 rfl
  have F21_1 : ∀ xs, l.F 21 1 xs = e21.fn 1 xs := (hF e21 (by rfl) (by decide)).1 1 rfl
  have F21_2 : ∀ xs, l.F 21 2 xs = e21.fn 2 xs := (hF e21 (by rfl) (by decide)).1 2 rfl
  have F21_3 : ∀ xs, l.F 21 3 xs = e21.fn 3 xs := (hF e21 (by rfl) (by decide)).1 3 rfl
  have P21 := (hF e21 (by rfl) (by decide)).2
  replace P21 : ∀ xs, (i2b (K.b.norm (l.F 21 1000000 xs)) = true) = _ := P21
  have F22_0 : ∀ xs, l.F 22 0 xs = e22.fn 0 xs := (hF e22 (by rfl) (by decide)).1 0 rfl
  have F22_1 : ∀ xs, l.F 22 1 xs = e22.fn 1 xs := (hF e22 (by rfl) (by decide)).1 1 rfl
  have F22_2 : ∀ xs, l.F 22 2 xs = e22.fn 2 xs := (hF e22 (by rfl) (by decide)).1 2 rfl
  have F22_3 : ∀ xs, l.F 22 3 xs = e22.fn 3 xs := (hF e22 (by rfl) (by decide)).1 3 rfl
  have P22 := (hF e22 (by rfl) (by decide)).2
  replace P22 : ∀ xs, (i2b (K.b.norm (l.F 22 1000000 xs)) = true) = _ := P22
  have F24_0 : ∀ xs, l.F 24 0 xs = e24.fn 0 xs := (hF e24 (by rfl) (by decide)).1 0 rfl
  have F24_1 : ∀ xs, l.F 24 1 xs = e24.fn 1 xs := (hF e24 (by rfl) (by decide)).1 1 rfl
  have F24_2 : ∀ xs, l.F 24 2 xs = e24.fn 2 xs := (hF e24 (by rfl) (by decide)).1 2 rfl
  have F24_3 : ∀ xs, l.F 24 3 xs = e24.fn 3 xs := (hF e24 (by rfl) (by decide)).1 3 rfl
  have F24_4 : ∀ xs, l.F 24 4 xs = e24.fn 4 xs := (hF e24 (by rfl) (by decide)).1 4 rfl
  have P24 := (hF e24 (by rfl) (by decide)).2
  replace P24 : ∀ xs, (i2b (K.b.norm (l.F 24 1000000 xs)) = true) = _ := P24
  have F47_0 : ∀ xs, l.F 47 0 xs = e47.fn 0 xs := (hF e47 (by rfl) (by decide)).1 0 rfl
  have P47 := (hF e47 (by rfl) (by decide)).2
  replace P47 : ∀ xs, (i2b (K.b.norm (l.F 47 1000000 xs)) = true) = _ := P47
  have F49_0 : ∀ xs, l.F 49 0 xs = e49.fn 0 xs := (hF e49 (by rfl) (by decide)).1 0 rfl
  have F49_1 : ∀ xs, l.F 49 1 xs = e49.fn 1 xs := (hF e49 (by rfl) (by decide)).1 1 rfl
  have F49_2 : ∀ xs, l.F 49 2 xs = e49.fn 2 xs := (hF e49 (by rfl) (by decide)).1 2 rfl
  have P49 := (hF e49 (by rfl) (by decide)).2
  replace P49 : ∀ xs, (i2b (K.b.norm (l.F 49 1000000 xs)) = true) = _ := P49
  have F51_0 : ∀ xs, l.F 51 0 xs = e51.fn 0 xs := (hF e51 (by rfl) (by decide)).1 0 rfl
  have F51_1 : ∀ xs, l.F 51 1 xs = e51.fn 1 xs := (hF e51 (by rfl) (by decide)).1 1 rfl
  have F51_2 : ∀ xs, l.F 51 2 xs = e51.fn 2 xs := (hF e51 (by rfl) (by decide)).1 2 rfl
  have F51_3 : ∀ xs, l.F 51 3 xs = e51.fn 3 xs := (hF e51 (by rfl) (by decide)).1 3 rfl
  have P51 := (hF e51 (by rfl) (by decide)).2
  replace P51 : ∀ xs, (i2b (K.b.norm (l.F 51 1000000 xs)) = true) = _ := P51
  have F53_0 : ∀ xs, l.F 53 0 xs = e53.fn 0 xs := (hF e53 (by rfl) (by decide)).1 0 rfl
  have F53_1 : ∀ xs, l.F 53 1 xs = e53.fn 1 xs := (hF e53 (by rfl) (by decide)).1 1 rfl
  have F53_2 : ∀ xs, l.F 53 2 xs = e53.fn 2 xs := (hF e53 (by rfl) (by decide)).1 2 rfl
  have P53 := (hF e53 (by rfl) (by decide)).2
  replace P53 : ∀ xs, (i2b (K.b.norm (l.F 53 1000000 xs)) = true) = _ := P53
  obtain ⟨now, tc, mc, n, L, k, id, d, rfl⟩ : ∃ x0 x1 x2 x3 x4 x5 x6 x7, xs = [x0, x1, x2, x3, x4, x5, x6, x7] := by
    have := fits_length hf
    match xs, this with
    | [x0, x1, x2, x3, x4, x5, x6, x7], _ => exact ⟨_, _, _, _, _, _, _, _, rfl⟩
  obtain ⟨h0, h1, h2, h3, h4, h5, h6, h7, _⟩ := hf
  simp only [norm_i, norm_x] at h0 h3 h5 h6 h7
  obtain ⟨p1, p2⟩ := hp
  simp only [ewA, ewL, preC, binI, dvI, shI, cmpB, env, bi, List.headD, List.tail, List.map, Nat.reduceAdd] at p1 p2
  subst p2
  have ht := p1.q.tim
  have yR := p1.preQ (c := L) rfl
  by_cases c1 : d.tmod 2 = 0
  · have e : ∀ j, fn52 j [n, tc, mc, n, L, k, id, d] = armX [n, tc, mc, n, L, k, id, d] id d j := fun j => if_pos c1
    refine ⟨?_, ?_, ?_, ?_, ?_, ?_, trivial⟩
    · simp (disch := omega) only [ob_52, ewA, ewL, preC, binI, dvI, shI, cmpB, env, bi, List.headD, List.tail, List.map, Nat.reduceAdd, ewB, ewM, if_true, if_false, implies_true, forall_const, ne_eq, reduceCtorEq, Int.reduceEq, Int.reduceLT, Int.reduceLE, Int.reduceToNat, Int.reduceAdd, Int.reduceSub, Int.reduceMul, Int.reduceNeg, Int.reduceBEq, Nat.reduceLT, Nat.reduceEqDiff, F21_0, F21_1, F21_2, F21_3, P21, F22_0, F22_1, F22_2, F22_3, P22, F24_0, F24_1, F24_2, F24_3, F24_4, P24, F47_0, P47, F49_0, F49_1, F49_2, P49, F51_0, F51_1, F51_2, F51_3, P51, F53_0, F53_1, F53_2, P53, h0, h5, h6, h7, c1]
      exact ⟨⟨p1.q, yR⟩, by show IntKind.i64.wrap (fn21 3 _) = IntKind.i64.wrap (fn53 2 _); rw [(armX_ok id d p1).2.2.2]⟩
    all_goals simp (disch := omega) only [es_52, e52, ewA, ewL, preC, binI, dvI, shI, cmpB, env, bi, List.headD, List.tail, List.map, Nat.reduceAdd, ewB, ewM, if_true, if_false, implies_true, forall_const, ne_eq, reduceCtorEq, Int.reduceEq, Int.reduceLT, Int.reduceLE, Int.reduceToNat, Int.reduceAdd, Int.reduceSub, Int.reduceMul, Int.reduceNeg, Int.reduceBEq, Nat.reduceLT, Nat.reduceEqDiff, F21_0, F21_1, F21_2, F21_3, P21, F22_0, F22_1, F22_2, F22_3, P22, F24_0, F24_1, F24_2, F24_3, F24_4, P24, F47_0, P47, F49_0, F49_1, F49_2, P49, F51_0, F51_1, F51_2, F51_3, P51, F53_0, F53_1, F53_2, P53, h0, h5, h6, h7, c1]
    · rw [e 0]; rfl
    · rw [e 1]; rfl
    · rw [e 2]; rfl
    · rw [e 3]; rfl
    · rw [e 4]; rfl
  · by_cases c2 : d.tmod 3 = 0
    · have e : ∀ j, fn52 j [n, tc, mc, n, L, k, id, d] = canX [n, tc, mc, n, L, k, id, d] id j := fun j => (if_neg c1).trans (if_pos c2)
      refine ⟨?_, ?_, ?_, ?_, ?_, ?_, trivial⟩
      · simp (disch := omega) only [ob_52, ewA, ewL, preC, binI, dvI, shI, cmpB, env, bi, List.headD, List.tail, List.map, Nat.reduceAdd, ewB, ewM, if_true, if_false, implies_true, forall_const, ne_eq, reduceCtorEq, Int.reduceEq, Int.reduceLT, Int.reduceLE, Int.reduceToNat, Int.reduceAdd, Int.reduceSub, Int.reduceMul, Int.reduceNeg, Int.reduceBEq, Nat.reduceLT, Nat.reduceEqDiff, F21_0, F21_1, F21_2, F21_3, P21, F22_0, F22_1, F22_2, F22_3, P22, F24_0, F24_1, F24_2, F24_3, F24_4, P24, F47_0, P47, F49_0, F49_1, F49_2, P49, F51_0, F51_1, F51_2, F51_3, P51, F53_0, F53_1, F53_2, P53, h0, h5, h6, h7, c1, c2]
        exact ⟨⟨p1.q, yR⟩, by show IntKind.i64.wrap (fn22 3 _) = IntKind.i64.wrap (fn49 2 _); rw [(canX_ok id p1).2.2.2]⟩
      all_goals simp (disch := omega) only [es_52, e52, ewA, ewL, preC, binI, dvI, shI, cmpB, env, bi, List.headD, List.tail, List.map, Nat.reduceAdd, ewB, ewM, if_true, if_false, implies_true, forall_const, ne_eq, reduceCtorEq, Int.reduceEq, Int.reduceLT, Int.reduceLE, Int.reduceToNat, Int.reduceAdd, Int.reduceSub, Int.reduceMul, Int.reduceNeg, Int.reduceBEq, Nat.reduceLT, Nat.reduceEqDiff, F21_0, F21_1, F21_2, F21_3, P21, F22_0, F22_1, F22_2, F22_3, P22, F24_0, F24_1, F24_2, F24_3, F24_4, P24, F47_0, P47, F49_0, F49_1, F49_2, P49, F51_0, F51_1, F51_2, F51_3, P51, F53_0, F53_1, F53_2, P53, h0, h5, h6, h7, c1, c2]
      · rw [e 0]; rfl
      · rw [e 1]; rfl
      · rw [e 2]; rfl
      · rw [e 3]; rfl
      · rw [e 4]; rfl
    · have e : ∀ j, fn52 j [n, tc, mc, n, L, k, id, d] = toX [n, tc, mc, n, L, k, id, d] id j := fun j => (if_neg c1).trans (if_neg c2)
      obtain ⟨g1, g2, g3, g4, g5⟩ := toX_ok id p1
      obtain ⟨y1, y2⟩ := same47 p1.q g3 g5
      refine ⟨?_, ?_, ?_, ?_, ?_, ?_, trivial⟩
      · simp (disch := omega) only [ob_52, ewA, ewL, preC, binI, dvI, shI, cmpB, env, bi, List.headD, List.tail, List.map, Nat.reduceAdd, ewB, ewM, if_true, if_false, implies_true, forall_const, ne_eq, reduceCtorEq, Int.reduceEq, Int.reduceLT, Int.reduceLE, Int.reduceToNat, Int.reduceAdd, Int.reduceSub, Int.reduceMul, Int.reduceNeg, Int.reduceBEq, Nat.reduceLT, Nat.reduceEqDiff, F21_0, F21_1, F21_2, F21_3, P21, F22_0, F22_1, F22_2, F22_3, P22, F24_0, F24_1, F24_2, F24_3, F24_4, P24, F47_0, P47, F49_0, F49_1, F49_2, P49, F51_0, F51_1, F51_2, F51_3, P51, F53_0, F53_1, F53_2, P53, h0, h5, h6, h7, c1, c2]
        exact ⟨⟨p1.q, yR, y1⟩, y2, by show IntKind.i64.wrap (fn24 4 _) = IntKind.i64.wrap (fn51 3 _); rw [g4]⟩
      all_goals simp (disch := omega) only [es_52, e52, ewA, ewL, preC, binI, dvI, shI, cmpB, env, bi, List.headD, List.tail, List.map, Nat.reduceAdd, ewB, ewM, if_true, if_false, implies_true, forall_const, ne_eq, reduceCtorEq, Int.reduceEq, Int.reduceLT, Int.reduceLE, Int.reduceToNat, Int.reduceAdd, Int.reduceSub, Int.reduceMul, Int.reduceNeg, Int.reduceBEq, Nat.reduceLT, Nat.reduceEqDiff, F21_0, F21_1, F21_2, F21_3, P21, F22_0, F22_1, F22_2, F22_3, P22, F24_0, F24_1, F24_2, F24_3, F24_4, P24, F47_0, P47, F49_0, F49_1, F49_2, P49, F51_0, F51_1, F51_2, F51_3, P51, F53_0, F53_1, F53_2, P53, h0, h5, h6, h7, c1, c2]
      · rw [e 0, ite_self]; rfl
      · rw [e 1, ite_self]; rfl
      · rw [e 2, ite_self]; rfl
      · rw [e 3, ite_self]; rfl
      · rw [e 4, ite_self]; rfl

theorem cU1ok : cU1.OK Try.prog G0 := by
  have h1 : Ctx.OK Try.prog G0 ⟨e52 :: e15 :: e50 :: e47 :: e51 :: e49 :: e53 :: cE.fs, []⟩ := ((((((cEok.addF ok53 rfl).addF ok49 rfl).addF ok51 rfl).addF ok47 rfl).addF ok50 rfl).addF ok15 rfl).addF ok52 rfl
  exact h1.sub rfl (by simp [cU1, cE]) (by simp [cU1])

theorem nil47 : e47.pre [cd [], cd []] ∧ i2b (K.b.norm (e47.fn 0 [cd [], cd []])) = true := by
  have h := QI.nil (t := 0) (by decide) (by decide)
  exact same47 h rfl (t := 0) (by rw [dc_cd]; rfl)

set_option maxHeartbeats 8000000 in
theorem ok37 : EntryOK Try.prog G0 e37 := cU1ok.entryP mixed ev_37 _ rfl _ rfl fun xs hf hp => by
  obtain ⟨l, hl, hF⟩ := ctx_P (l0 := cU1.l)
  show ob_37.tt cU1.l.F _ = true ∧ outsP e37.fn _ cU1.l.F _ _ _ _
  rw [hl]
  have F15_0 : ∀ xs, l.F 15 0 xs = e15.fn 0 xs := (hF e15 (by rfl) (by decide)).1 0 rfl
  have P15 := (hF e15 (by rfl) (by decide)).2
  replace P15 : ∀ xs, (i2b (K.b.norm (l.F 15 1000000 xs)) = true) = _ := P15
  have F16_0 : ∀ xs, l.F 16 0 xs = e16.fn 0 xs := (hF e16 (by rfl) (by decide)).1 0 rfl
  have F16_1 : ∀ xs, l.F 16 1 xs = e16.fn 1 xs := (hF e16 (by rfl) (by decide)).1 1 rfl
  have F16_2 : ∀ xs, l.F 16 2 xs = e16.fn 2 xs := (hF e16 (by rfl) (by decide)).1 2 rfl
  have F16_3 : ∀ xs, l.F 16 3 xs = e16.fn 3 xs := (hF e16 (by rfl) (by decide)).1 3 rfl
  have F16_4 : ∀ xs, l.F 16 4 xs = e16.fn 4 xs := (hF e16 (by rfl) (by decide)).1 4 rfl
  have P16 := (hF e16 (by rfl) (by decide)).2
  replace P16 : ∀ xs, (i2b (K.b.norm (l.F 16 1000000 xs)) = true) = _ := P16
  have F21_0 : ∀ xs, l.F 21 0 xs = e21.fn 0 xs := (hF e21 (by rfl) (by decide)).1 0 rfl
  have F21_1 : ∀ xs, l.F 21 1 xs = e21.fn 1 xs := (hF e21 (by rfl) (by decide)).1 1 rfl
  have F21_2 : ∀ xs, l.F 21 2 xs = e21.fn 2 xs := (hF e21 (by rfl) (by decide)).1 2 rfl
  have F21_3 : ∀ xs, l.F 21 3 xs = e21.fn 3 xs := (hF e21 (by rfl) (by decide)).1 3 rfl
  have P21 := (hF e21 (by rfl) (by decide)).2
  replace P21 : ∀ xs, (i2b (K.b.norm (l.F 21 1000000 xs)) = true) = _ := P21
  have F22_0 : ∀ xs, l.F 22 0 xs = e22.fn 0 xs := (hF e22 (by rfl) (by decide)).1 0 rfl
  have F22_1 : ∀ xs, l.F 22 1 xs = e22.fn 1 xs := (hF e22 (by rfl) (by decide)).1 1 rfl
  have F22_2 : ∀ xs, l.F 22 2 xs = e22.fn 2 xs := (hF e22 (by rfl) (by decide)).1 2 rfl
  have F22_3 : ∀ xs, l.F 22 3 xs = e22.fn 3 xs := (hF e22 (by rfl) (by decide)).1 3 rfl
  have P22 := (hF e22 (by rfl) (by decide)).2
  replace P22 : ∀ xs, (i2b (K.b.norm (l.F 22 1000000 xs)) = true) = _ := P22
  have F24_0 : ∀ xs, l.F 24 0 xs = e24.fn 0 xs := (hF e24 (by rfl) (by decide)).1 0 rfl
  have F24_1 : ∀ xs, l.F 24 1 xs = e24.fn 1 xs := (hF e24 (by rfl) (by decide)).1 1 rfl
  have F24_2 : ∀ xs, l.F 24 2 xs = e24.fn 2 xs := (hF e24 (by rfl) (by decide)).1 2 rfl
  have F24_3 : ∀ xs, l.F 24 3 xs = e24.fn 3 xs := (hF e24 (by rfl) (by decide)).1 3 rfl
  have F24_4 : ∀ xs, l.F 24 4 xs = e24.fn 4 xs := (hF e24 (by rfl) (by decide)).1 4 rfl
  have P24 := (hF e24 (by rfl) (by decide)).2
  replace P24 : ∀ xs, (i2b (K.b.norm (l.F 24 1000000 xs)) = true) = _ := P24
  have F47_0 : ∀ xs, l.F 47 0 xs = e47.fn 0 xs := (hF e47 (by rfl) (by decide)).1 0 rfl
  have P47 := (hF e47 (by rfl) (by decide)).2
  replace P47 : ∀ xs, (i2b (K.b.norm (l.F 47 1000000 xs)) = true) = _ := P47
  have F49_0 : ∀ xs, l.F 49 0 xs = e49.fn 0 xs := (hF e49 (by rfl) (by decide)).1 0 rfl
  have F49_1 : ∀ xs, l.F 49 1 xs = e49.fn 1 xs := (hF e49 (by rfl) (by decide)).1 1 rfl
  have F49_2 : ∀ xs, l.F 49 2 xs = e49.fn 2 xs := (hF e49 (by rfl) (by decide)).1 2 rfl
  have P49 := (hF e49 (by rfl) (by decide)).2
  replace P49 : ∀ xs, (i2b (K.b.norm (l.F 49 1000000 xs)) = true) = _ := P49
  have F50_0 : ∀ xs, l.F 50 0 xs = e50.fn 0 xs := (hF e50 (by rfl) (by decide)).1 0 rfl
  have F50_1 : ∀ xs, l.F 50 1 xs = e50.fn 1 xs := (hF e50 (by rfl) (by decide)).1 1 rfl
  have F50_2 : ∀ xs, l.F 50 2 xs = e50.fn 2 xs := (hF e50 (by rfl) (by decide)).1 2 rfl
  have P50 := (hF e50 (by rfl) (by decide)).2
  replace P50 : ∀ xs, (i2b (K.b.norm (l.F 50 1000000 xs)) = true) = _ := P50
  have F51_0 : ∀ xs, l.F 51 0 xs = e51.fn 0 xs := (hF e51 (by rfl) (by decide)).1 0 rfl
  have F51_1 : ∀ xs, l.F 51 1 xs = e51.fn 1 xs := (hF e51 (by rfl) (by decide)).1 1 rfl
  have F51_2 : ∀ xs, l.F 51 2 xs = e51.fn 2 xs := (hF e51 (by rfl) (by decide)).1 2 rfl
  have F51_3 : ∀ xs, l.F 51 3 xs = e51.fn 3 xs := (hF e51 (by rfl) (by decide)).1 3 rfl
  have P51 := (hF e51 (by rfl) (by decide)).2
  replace P51 : ∀ xs, (i2b (K.b.norm (l.F 51 1000000 xs)) = true) = _ := P51
  have F52_0 : ∀ xs, l.F 52 0 xs = e52.fn 0 xs := (hF e52 (by rfl) (by decide)).1 0 rfl
  have F52_1 : ∀ xs, l.F 52 1 xs = e52.fn 1 xs := (hF e52 (by rfl) (by decide)).1 1 rfl
  have F52_2 : ∀ xs, l.F 52 2 xs = e52.fn 2 xs := (hF e52 (by rfl) (by decide)).1 2 rfl
  have F52_3 : ∀ xs, l.F 52 3 xs = e52.fn 3 xs := (hF e52 (by rfl) (by decide)).1 3 rfl
  have F52_4 : ∀ xs, l.F 52 4 xs = e52.fn 4 xs := (hF e52 (by rfl) (by decide)).1 4 rfl
  have P52 := (hF e52 (by rfl) (by decide)).2
  replace P52 : ∀ xs, (i2b (K.b.norm (l.F 52 1000000 xs)) = true) = _ := P52
  have F53_0 : ∀ xs, l.F 53 0 xs = e53.fn 0 xs := (hF e53 (by rfl) (by decide)).1 0 rfl
  have F53_1 : ∀ xs, l.F 53 1 xs = e53.fn 1 xs := (hF e53 (by rfl) (by decide)).1 1 rfl
  have F53_2 : ∀ xs, l.F 53 2 xs = e53.fn 2 xs := (hF e53 (by rfl) (by decide)).1 2 rfl
  have P53 := (hF e53 (by rfl) (by decide)).2
  replace P53 : ∀ xs, (i2b (K.b.norm (l.F 53 1000000 xs)) = true) = _ := P53
  obtain ⟨now, tc, mc, n, L, k, id, d, rfl⟩ : ∃ x0 x1 x2 x3 x4 x5 x6 x7, xs = [x0, x1, x2, x3, x4, x5, x6, x7] := by
    have := fits_length hf
    match xs, this with
    | [x0, x1, x2, x3, x4, x5, x6, x7], _ => exact ⟨_, _, _, _, _, _, _, _, rfl⟩
  obtain ⟨h0, h1, h2, h3, h4, h5, h6, h7, _⟩ := hf
  simp only [norm_i, norm_x] at h0 h3 h5 h6 h7
  obtain ⟨p1, p2⟩ := hp
  simp only [ewA, ewL, preC, binI, dvI, shI, cmpB, env, bi, List.headD, List.tail, List.map, Nat.reduceAdd] at p1 p2
  subst p2
  have ht := p1.q.tim
  have yR := p1.preQ (c := L) rfl
  have hk := u8r h5
  have yM : e15.pre [id, 16] := ⟨by show (0 : Int) < 16; decide, by show (16 : Int) ≤ 4611686018427387904; decide⟩
  have yN : e15.pre [d, 600] := ⟨by show (0 : Int) < 600; decide, by show (600 : Int) ≤ 4611686018427387904; decide⟩
  have hI0 : 0 ≤ id % 16 ∧ id % 16 < 16 := by omega
  have hD0 : 0 ≤ d % 600 ∧ d % 600 < 600 := by omega
  obtain ⟨I, hI⟩ : ∃ I, I = id % 16 := ⟨_, rfl⟩
  obtain ⟨D, hD⟩ : ∃ D, D = d % 600 := ⟨_, rfl⟩
  have fI : e15.fn 0 [id, 16] = I := hI.symm
  have fD : e15.fn 0 [d, 600] = D := hD.symm
  rw [← hI] at hI0
  rw [← hD] at hD0
  have wI : IntKind.i64.wrap I = I := i64w (by omega) (by omega)
  have wD : IntKind.i64.wrap D = D := i64w (by omega) (by omega)
  have key : ∀ j, fn37 j [n, tc, mc, n, L, k, id, d] = (if k.tmod 8 = 4 then canX [n, tc, mc, n, L, k, id, d] I j else if k.tmod 8 = 5 then tickX [n, tc, mc, n, L, k, id, d] j else if k.tmod 8 = 6 then toX [n, tc, mc, n, L, k, id, d] (n + D) j else if k.tmod 8 = 7 then fn52 j [n, tc, mc, n, L, k, id, d] else armX [n, tc, mc, n, L, k, id, d] I (n + 1 + D) j) := fun j => by rw [hI, hD]; rfl
  by_cases c4 : k.tmod 8 = 4
  · have e : ∀ j, fn37 j [n, tc, mc, n, L, k, id, d] = canX [n, tc, mc, n, L, k, id, d] I j := fun j => by rw [key, if_pos c4]
    refine ⟨?_, ?_, ?_, ?_, ?_, ?_, trivial⟩
    · simp (disch := omega) only [ob_37, ewA, ewL, preC, binI, dvI, shI, cmpB, env, bi, List.headD, List.tail, List.map, Nat.reduceAdd, ewB, ewM, if_true, if_false, implies_true, forall_const, ne_eq, reduceCtorEq, Int.reduceEq, Int.reduceLT, Int.reduceLE, Int.reduceToNat, Int.reduceAdd, Int.reduceSub, Int.reduceMul, Int.reduceNeg, Int.reduceBEq, Nat.reduceLT, Nat.reduceEqDiff, F15_0, P15, F16_0, F16_1, F16_2, F16_3, F16_4, P16, F21_0, F21_1, F21_2, F21_3, P21, F22_0, F22_1, F22_2, F22_3, P22, F24_0, F24_1, F24_2, F24_3, F24_4, P24, F47_0, P47, F49_0, F49_1, F49_2, P49, F50_0, F50_1, F50_2, P50, F51_0, F51_1, F51_2, F51_3, P51, F52_0, F52_1, F52_2, F52_3, F52_4, P52, F53_0, F53_1, F53_2, P53, h0, h5, h6, h7, fI, fD, wI, wD, c4]
      exact ⟨⟨⟨yM, yN⟩, ⟨p1.q, yR⟩, fun _ => nil47.1⟩, by show IntKind.i64.wrap (fn22 3 _) = IntKind.i64.wrap (fn49 2 _); rw [(canX_ok I p1).2.2.2], nil47.2⟩
    all_goals simp (disch := omega) only [es_37, e37, ewA, ewL, preC, binI, dvI, shI, cmpB, env, bi, List.headD, List.tail, List.map, Nat.reduceAdd, ewB, ewM, if_true, if_false, implies_true, forall_const, ne_eq, reduceCtorEq, Int.reduceEq, Int.reduceLT, Int.reduceLE, Int.reduceToNat, Int.reduceAdd, Int.reduceSub, Int.reduceMul, Int.reduceNeg, Int.reduceBEq, Nat.reduceLT, Nat.reduceEqDiff, F15_0, P15, F16_0, F16_1, F16_2, F16_3, F16_4, P16, F21_0, F21_1, F21_2, F21_3, P21, F22_0, F22_1, F22_2, F22_3, P22, F24_0, F24_1, F24_2, F24_3, F24_4, P24, F47_0, P47, F49_0, F49_1, F49_2, P49, F50_0, F50_1, F50_2, P50, F51_0, F51_1, F51_2, F51_3, P51, F52_0, F52_1, F52_2, F52_3, F52_4, P52, F53_0, F53_1, F53_2, P53, h0, h5, h6, h7, fI, fD, wI, wD, c4]
    · rw [e 0]; rfl
    · rw [e 1]; rfl
    · rw [e 2]; rfl
    · rw [e 3]; rfl
    · rw [e 4]; rfl
  · by_cases c5 : k.tmod 8 = 5
    · have e : ∀ j, fn37 j [n, tc, mc, n, L, k, id, d] = tickX [n, tc, mc, n, L, k, id, d] j := fun j => by rw [key, if_neg c4, if_pos c5]
      refine ⟨?_, ?_, ?_, ?_, ?_, ?_, trivial⟩
      · simp (disch := omega) only [ob_37, ewA, ewL, preC, binI, dvI, shI, cmpB, env, bi, List.headD, List.tail, List.map, Nat.reduceAdd, ewB, ewM, if_true, if_false, implies_true, forall_const, ne_eq, reduceCtorEq, Int.reduceEq, Int.reduceLT, Int.reduceLE, Int.reduceToNat, Int.reduceAdd, Int.reduceSub, Int.reduceMul, Int.reduceNeg, Int.reduceBEq, Nat.reduceLT, Nat.reduceEqDiff, F15_0, P15, F16_0, F16_1, F16_2, F16_3, F16_4, P16, F21_0, F21_1, F21_2, F21_3, P21, F22_0, F22_1, F22_2, F22_3, P22, F24_0, F24_1, F24_2, F24_3, F24_4, P24, F47_0, P47, F49_0, F49_1, F49_2, P49, F50_0, F50_1, F50_2, P50, F51_0, F51_1, F51_2, F51_3, P51, F52_0, F52_1, F52_2, F52_3, F52_4, P52, F53_0, F53_1, F53_2, P53, h0, h5, h6, h7, fI, fD, wI, wD, c4, c5]
        obtain ⟨g1, g2, g3, g4, g5⟩ := tickX_ok p1
        obtain ⟨y1, y2⟩ := same47 p1.q g3 g5
        exact ⟨⟨⟨yM, yN⟩, ⟨p1.q, yR⟩, fun _ => y1⟩, by show IntKind.i64.wrap (fn16 4 _) = 0; rw [g4]; rfl, y2⟩
      all_goals simp (disch := omega) only [es_37, e37, ewA, ewL, preC, binI, dvI, shI, cmpB, env, bi, List.headD, List.tail, List.map, Nat.reduceAdd, ewB, ewM, if_true, if_false, implies_true, forall_const, ne_eq, reduceCtorEq, Int.reduceEq, Int.reduceLT, Int.reduceLE, Int.reduceToNat, Int.reduceAdd, Int.reduceSub, Int.reduceMul, Int.reduceNeg, Int.reduceBEq, Nat.reduceLT, Nat.reduceEqDiff, F15_0, P15, F16_0, F16_1, F16_2, F16_3, F16_4, P16, F21_0, F21_1, F21_2, F21_3, P21, F22_0, F22_1, F22_2, F22_3, P22, F24_0, F24_1, F24_2, F24_3, F24_4, P24, F47_0, P47, F49_0, F49_1, F49_2, P49, F50_0, F50_1, F50_2, P50, F51_0, F51_1, F51_2, F51_3, P51, F52_0, F52_1, F52_2, F52_3, F52_4, P52, F53_0, F53_1, F53_2, P53, h0, h5, h6, h7, fI, fD, wI, wD, c4, c5]
      · rw [e 0]; rfl
      · rw [e 1]; rfl
      · rw [e 2]; rfl
      · rw [e 3]; rfl
      · rw [e 4]; rfl
    · by_cases c6 : k.tmod 8 = 6
      · have e : ∀ j, fn37 j [n, tc, mc, n, L, k, id, d] = toX [n, tc, mc, n, L, k, id, d] (n + D) j := fun j => by rw [key, if_neg c4, if_neg c5, if_pos c6]
        refine ⟨?_, ?_, ?_, ?_, ?_, ?_, trivial⟩
        · simp (disch := omega) only [ob_37, ewA, ewL, preC, binI, dvI, shI, cmpB, env, bi, List.headD, List.tail, List.map, Nat.reduceAdd, ewB, ewM, if_true, if_false, implies_true, forall_const, ne_eq, reduceCtorEq, Int.reduceEq, Int.reduceLT, Int.reduceLE, Int.reduceToNat, Int.reduceAdd, Int.reduceSub, Int.reduceMul, Int.reduceNeg, Int.reduceBEq, Nat.reduceLT, Nat.reduceEqDiff, F15_0, P15, F16_0, F16_1, F16_2, F16_3, F16_4, P16, F21_0, F21_1, F21_2, F21_3, P21, F22_0, F22_1, F22_2, F22_3, P22, F24_0, F24_1, F24_2, F24_3, F24_4, P24, F47_0, P47, F49_0, F49_1, F49_2, P49, F50_0, F50_1, F50_2, P50, F51_0, F51_1, F51_2, F51_3, P51, F52_0, F52_1, F52_2, F52_3, F52_4, P52, F53_0, F53_1, F53_2, P53, h0, h5, h6, h7, fI, fD, wI, wD, c4, c5, c6]
          obtain ⟨g1, g2, g3, g4, g5⟩ := toX_ok (n + D) p1
          obtain ⟨y1, y2⟩ := same47 p1.q g3 g5
          exact ⟨⟨⟨yM, yN⟩, ⟨p1.q, yR⟩, fun _ => y1⟩, by show IntKind.i64.wrap (fn24 4 _) = IntKind.i64.wrap (fn51 3 _); rw [g4], y2⟩
        all_goals simp (disch := omega) only [es_37, e37, ewA, ewL, preC, binI, dvI, shI, cmpB, env, bi, List.headD, List.tail, List.map, Nat.reduceAdd, ewB, ewM, if_true, if_false, implies_true, forall_const, ne_eq, reduceCtorEq, Int.reduceEq, Int.reduceLT, Int.reduceLE, Int.reduceToNat, Int.reduceAdd, Int.reduceSub, Int.reduceMul, Int.reduceNeg, Int.reduceBEq, Nat.reduceLT, Nat.reduceEqDiff, F15_0, P15, F16_0, F16_1, F16_2, F16_3, F16_4, P16, F21_0, F21_1, F21_2, F21_3, P21, F22_0, F22_1, F22_2, F22_3, P22, F24_0, F24_1, F24_2, F24_3, F24_4, P24, F47_0, P47, F49_0, F49_1, F49_2, P49, F50_0, F50_1, F50_2, P50, F51_0, F51_1, F51_2, F51_3, P51, F52_0, F52_1, F52_2, F52_3, F52_4, P52, F53_0, F53_1, F53_2, P53, h0, h5, h6, h7, fI, fD, wI, wD, c4, c5, c6]
        · rw [e 0]; rfl
        · rw [e 1]; rfl
        · rw [e 2]; rfl
        · rw [e 3]; rfl
        · rw [e 4]; rfl
      · by_cases c7 : k.tmod 8 = 7
        · have e : ∀ j, fn37 j [n, tc, mc, n, L, k, id, d] = (fun j => fn52 j [n, tc, mc, n, L, k, id, d]) j := fun j => by rw [key, if_neg c4, if_neg c5, if_neg c6, if_pos c7]
          refine ⟨?_, ?_, ?_, ?_, ?_, ?_, trivial⟩
          · simp (disch := omega) only [ob_37, ewA, ewL, preC, binI, dvI, shI, cmpB, env, bi, List.headD, List.tail, List.map, Nat.reduceAdd, ewB, ewM, if_true, if_false, implies_true, forall_const, ne_eq, reduceCtorEq, Int.reduceEq, Int.reduceLT, Int.reduceLE, Int.reduceToNat, Int.reduceAdd, Int.reduceSub, Int.reduceMul, Int.reduceNeg, Int.reduceBEq, Nat.reduceLT, Nat.reduceEqDiff, F15_0, P15, F16_0, F16_1, F16_2, F16_3, F16_4, P16, F21_0, F21_1, F21_2, F21_3, P21, F22_0, F22_1, F22_2, F22_3, P22, F24_0, F24_1, F24_2, F24_3, F24_4, P24, F47_0, P47, F49_0, F49_1, F49_2, P49, F50_0, F50_1, F50_2, P50, F51_0, F51_1, F51_2, F51_3, P51, F52_0, F52_1, F52_2, F52_3, F52_4, P52, F53_0, F53_1, F53_2, P53, h0, h5, h6, h7, fI, fD, wI, wD, c4, c5, c6, c7]
            exact ⟨⟨yM, yN⟩, p1, rfl⟩
          all_goals simp (disch := omega) only [es_37, e37, ewA, ewL, preC, binI, dvI, shI, cmpB, env, bi, List.headD, List.tail, List.map, Nat.reduceAdd, ewB, ewM, if_true, if_false, implies_true, forall_const, ne_eq, reduceCtorEq, Int.reduceEq, Int.reduceLT, Int.reduceLE, Int.reduceToNat, Int.reduceAdd, Int.reduceSub, Int.reduceMul, Int.reduceNeg, Int.reduceBEq, Nat.reduceLT, Nat.reduceEqDiff, F15_0, P15, F16_0, F16_1, F16_2, F16_3, F16_4, P16, F21_0, F21_1, F21_2, F21_3, P21, F22_0, F22_1, F22_2, F22_3, P22, F24_0, F24_1, F24_2, F24_3, F24_4, P24, F47_0, P47, F49_0, F49_1, F49_2, P49, F50_0, F50_1, F50_2, P50, F51_0, F51_1, F51_2, F51_3, P51, F52_0, F52_1, F52_2, F52_3, F52_4, P52, F53_0, F53_1, F53_2, P53, h0, h5, h6, h7, fI, fD, wI, wD, c4, c5, c6, c7]
          · rw [e 0]; rfl
          · rw [e 1]; rfl
          · rw [e 2]; rfl
          · rw [e 3]; rfl
          · rw [e 4]; rfl
        · have e : ∀ j, fn37 j [n, tc, mc, n, L, k, id, d] = armX [n, tc, mc, n, L, k, id, d] I (n + 1 + D) j := fun j => by rw [key, if_neg c4, if_neg c5, if_neg c6, if_neg c7]
          refine ⟨?_, ?_, ?_, ?_, ?_, ?_, trivial⟩
          · simp (disch := omega) only [ob_37, ewA, ewL, preC, binI, dvI, shI, cmpB, env, bi, List.headD, List.tail, List.map, Nat.reduceAdd, ewB, ewM, if_true, if_false, implies_true, forall_const, ne_eq, reduceCtorEq, Int.reduceEq, Int.reduceLT, Int.reduceLE, Int.reduceToNat, Int.reduceAdd, Int.reduceSub, Int.reduceMul, Int.reduceNeg, Int.reduceBEq, Nat.reduceLT, Nat.reduceEqDiff, F15_0, P15, F16_0, F16_1, F16_2, F16_3, F16_4, P16, F21_0, F21_1, F21_2, F21_3, P21, F22_0, F22_1, F22_2, F22_3, P22, F24_0, F24_1, F24_2, F24_3, F24_4, P24, F47_0, P47, F49_0, F49_1, F49_2, P49, F50_0, F50_1, F50_2, P50, F51_0, F51_1, F51_2, F51_3, P51, F52_0, F52_1, F52_2, F52_3, F52_4, P52, F53_0, F53_1, F53_2, P53, h0, h5, h6, h7, fI, fD, wI, wD, c4, c5, c6, c7]
            exact ⟨⟨⟨yM, yN⟩, ⟨p1.q, yR⟩, fun _ => nil47.1⟩, by show IntKind.i64.wrap (fn21 3 _) = IntKind.i64.wrap (fn53 2 _); rw [(armX_ok I (n + 1 + D) p1).2.2.2], nil47.2⟩
          all_goals simp (disch := omega) only [es_37, e37, ewA, ewL, preC, binI, dvI, shI, cmpB, env, bi, List.headD, List.tail, List.map, Nat.reduceAdd, ewB, ewM, if_true, if_false, implies_true, forall_const, ne_eq, reduceCtorEq, Int.reduceEq, Int.reduceLT, Int.reduceLE, Int.reduceToNat, Int.reduceAdd, Int.reduceSub, Int.reduceMul, Int.reduceNeg, Int.reduceBEq, Nat.reduceLT, Nat.reduceEqDiff, F15_0, P15, F16_0, F16_1, F16_2, F16_3, F16_4, P16, F21_0, F21_1, F21_2, F21_3, P21, F22_0, F22_1, F22_2, F22_3, P22, F24_0, F24_1, F24_2, F24_3, F24_4, P24, F47_0, P47, F49_0, F49_1, F49_2, P49, F50_0, F50_1, F50_2, P50, F51_0, F51_1, F51_2, F51_3, P51, F52_0, F52_1, F52_2, F52_3, F52_4, P52, F53_0, F53_1, F53_2, P53, h0, h5, h6, h7, fI, fD, wI, wD, c4, c5, c6, c7]
          · rw [e 0]; rfl
          · rw [e 1]; rfl
          · rw [e 2]; rfl
          · rw [e 3]; rfl
          · rw [e 4]; rfl

end
end Go.Proofs.Ytmolkkphnehgcaa.Ew
