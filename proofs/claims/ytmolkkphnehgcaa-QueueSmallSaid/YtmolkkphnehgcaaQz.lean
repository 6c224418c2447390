/- Layer 17: the reference's functions, second part. -/
import Derived.Test.YtmolkkphnehgcaaQy
set_option linter.unusedVariables false
set_option linter.unusedSimpArgs false
namespace Go.Proofs.Ytmolkkphnehgcaa.Ew
open Go Go.RowKit
noncomputable section
--P Try.prog G0

def o66 : Sh := .obj 66 [i64, ls78]
def preR (L : RL) : Prop := rowsOK tmK L ∧ (L.length : Int) < capR
def fnL46 : Nat → List Int → Int
  | 0, xs => b2i (!hasL ((dc (env xs 2)).drop (env xs 3).toNat) (env xs 0))
  | 1, xs => dlL ((dc (env xs 2)).drop (env xs 3).toNat) (env xs 0)
  | _, xs => b2i (hasL ((dc (env xs 2)).drop (env xs 3).toNat) (env xs 0))
def preL46 (xs : List Int) : Prop := preR (dc (env xs 2)) ∧ 0 ≤ env xs 3 ∧ env xs 3 ≤ ((dc (env xs 2)).length : Int)
def mu46 (xs : List Int) : Nat := (((dc (env xs 2)).length : Int) - env xs 3).toNat
def le46 : LEnt := ⟨⟨9046, 999999, [i64, o66, .lt (.i .i64) 0, .lt .b 0, i64], [], [0, 1], .tup [bS, i64, bS], fnL46, preL46⟩, [1, 2, 4, 5, 6], [4, 5], (List.range 22).map (· + 6), [.ex 0, .ret], 28, []⟩
def fn46 : Nat → List Int → Int
  | 0, xs => dlL (dc (env xs 1)) (env xs 2)
  | _, xs => b2i (hasL (dc (env xs 1)) (env xs 2))
def e46 : Ent := ⟨46, 46, [rq, i64], [], [0], .tup [i64, bS], fn46, fun xs => preR (dc (env xs 1))⟩
def fnL51 : Nat → List Int → Int
  | 0, xs => appC (dueT (env xs 0) ((dc (env xs 2)).drop (env xs 5).toNat)) (env xs 3)
  | _, xs => appC (leftT (env xs 0) ((dc (env xs 2)).drop (env xs 5).toNat)) (env xs 4)
def preL51 (xs : List Int) : Prop := preR (dc (env xs 2)) ∧ ((dc (env xs 3)).length : Int) ≤ env xs 5 ∧ ((dc (env xs 4)).length : Int) ≤ env xs 5 ∧ 0 ≤ env xs 5 ∧ env xs 5 ≤ ((dc (env xs 2)).length : Int)
def mu51 (xs : List Int) : Nat := (((dc (env xs 2)).length : Int) - env xs 5).toNat
def le51 : LEnt := ⟨⟨9051, 999999, [i64, o66, lo78, lo78, i64], [], [0, 1], .tup [lo78, lo78], fnL51, preL51⟩, [1, 2, 7, 8, 9], [7, 8], [9] ++ (List.range 31).map (· + 19), [.ex 0], 55, []⟩
def fn51 : Nat → List Int → Int
  | 0, xs => bif toB (env xs 0) (env xs 2) then env xs 2 else env xs 0
  | 1, xs => bif toB (env xs 0) (env xs 2) then cd (leftT (env xs 2) (dc (env xs 1))) else env xs 1
  | 2, xs => bif toB (env xs 0) (env xs 2) then cd (sortT (dueT (env xs 2) (dc (env xs 1)))) else cd []
  | _, xs => bif toB (env xs 0) (env xs 2) then 0 else 2
def preQ (xs : List Int) : Prop := preR (dc (env xs 1)) ∧ disT (dc (env xs 1)) ∧ timB (env xs 0)
def e51 : Ent := ⟨51, 51, [rq, i64], [], [0], .tup [rq, ls78, i64], fn51, preQ⟩
def fn50 (j : Nat) (xs : List Int) : Int := if env xs 0 = 1099511627776 then (match j with | 0 => env xs 0 | 1 => env xs 1 | _ => cd []) else fn51 j [env xs 0, env xs 1, env xs 0 + 1]
def e50 : Ent := ⟨50, 50, [rq], [], [0], .tup [rq, ls78], fn50, preQ⟩
def fnSi : Nat → List Int → Int
  | 0, xs => idR (minF ((dc (env xs 0)).drop (env xs 3).toNat) [env xs 1, env xs 2])
  | _, xs => dlR (minF ((dc (env xs 0)).drop (env xs 3).toNat) [env xs 1, env xs 2])
def preSi (xs : List Int) : Prop := preR (dc (env xs 0)) ∧ 0 ≤ env xs 3 ∧ env xs 3 ≤ ((dc (env xs 0)).length : Int)
def muSi (xs : List Int) : Nat := (((dc (env xs 0)).length : Int) - env xs 3).toNat
def leSi : LEnt := ⟨⟨9156, 999999, [ls78, .obj 78 [i64, i64], i64], [{ j := 1, ty := 78, cs := [i64, i64] }], [0], .tup [], fnSi, preSi⟩, [0, 4, 5], [], [5] ++ (List.range 16).map (· + 12), [.ex 2], 37, [0]⟩
def fnSo (_ : Nat) (xs : List Int) : Int := appC (sortT (dc (env xs 0))) (env xs 1)
def preSo (xs : List Int) : Prop := rowsOK tmK (dc (env xs 0)) ∧ disT (dc (env xs 0)) ∧ ((dc (env xs 0)).length : Int) + ((dc (env xs 1)).length : Int) < capR
def muSo (xs : List Int) : Nat := (dc (env xs 0)).length
def leSo : LEnt := ⟨⟨9056, 999999, [ls78, lo78], [], [], .tup [lo78], fnSo, preSo⟩, [0, 3], [3], [0] ++ (List.range 32).map (· + 4), [.ex 0], 37, [0]⟩
def preS (xs : List Int) : Prop := preR (dc (env xs 0)) ∧ disT (dc (env xs 0))
def e56 : Ent := ⟨56, 56, [ls78], [], [0], lo78, fun _ xs => cd (sortT (dc (env xs 0))), preS⟩
def e48 : Ent := ⟨48, 48, [rq], [], [0], lo78, fun _ xs => cd (sortT (dc (env xs 1))), preQ⟩
def fn45 : Nat → List Int → Int
  | 0, xs => ((sortT (dc (env xs 1))).getD 0 []).getD 0 0
  | 1, xs => ((sortT (dc (env xs 1))).getD 0 []).getD 1 0
  | _, xs => b2i (decide ((sortT (dc (env xs 1))).length ≠ 0))
def e45 : Ent := ⟨45, 45, [rq], [], [0], .tup [tm, bS], fn45, preQ⟩
def fn49 : Nat → List Int → Int
  | 0, xs => env xs 0
  | 1, xs => bif rightB (env xs 2) && hasL (dc (env xs 1)) (env xs 2) then cd (delT (env xs 2) (dc (env xs 1))) else env xs 1
  | _, xs => bif rightB (env xs 2) then (bif hasL (dc (env xs 1)) (env xs 2) then 0 else 6) else 2
def e49 : Ent := ⟨49, 49, [rq, i64], [], [0], .tup [rq, i64], fn49, preQ⟩
def fn53 : Nat → List Int → Int
  | 0, xs => env xs 0
  | 1, xs => bif armB (env xs 0) (env xs 2) (env xs 3) then cd (delT (env xs 2) (dc (env xs 1)) ++ [[env xs 2, env xs 3]]) else env xs 1
  | _, xs => bif armB (env xs 0) (env xs 2) (env xs 3) then 0 else 2
def e53 : Ent := ⟨53, 53, [rq, i64, i64], [], [0], .tup [rq, i64], fn53, preQ⟩
def pSi : List Bool := [true,true,false,false,false,true,false,true,false,true,false]
def cS0 : Ctx := ⟨[], []⟩
def cS1 : Ctx := ⟨[], [(46, [true,false,true,false], le46)]⟩
def cS2 : Ctx := ⟨[e59, e61], []⟩
def cS3 : Ctx := ⟨[e59, e61], [(56, pSi, leSi)]⟩
def cS4 : Ctx := ⟨[e59, e61], [(56, pSi, leSi), (56, [true,true,false,false], leSo)]⟩
def cS5 : Ctx := ⟨[e56, e59], [(51, [true,true,true,false,true,false], le51)]⟩
def cS6 : Ctx := ⟨[e51, e56, e59], []⟩

def ob_L46 : E := (.and (.or (.not (.cmp .lss (.var (.i .i64) 3) (.app (.i .i64) 0 0 [(.var .x 2)]))) (.and (.and (.cmp .geq (.var (.i .i64) 3) (.lit (.i .i64) 0)) (.cmp .lss (.var (.i .i64) 3) (.app (.i .i64) 0 0 [(.var .x 2)]))) (.or (.not (.cmp .eql (.app (.i .i64) 0 1 [(.var .x 2), (.var (.i .i64) 3), (.lit .x 0)]) (.var (.i .i64) 0))) (.and (.cmp .geq (.var (.i .i64) 3) (.lit (.i .i64) 0)) (.cmp .lss (.var (.i .i64) 3) (.app (.i .i64) 0 0 [(.var .x 2)])))))) (.or (.not (.and (.cmp .lss (.var (.i .i64) 3) (.app (.i .i64) 0 0 [(.var .x 2)])) (.not (.cmp .eql (.app (.i .i64) 0 1 [(.var .x 2), (.var (.i .i64) 3), (.lit .x 0)]) (.var (.i .i64) 0))))) (.app .b 9046 1000000 [(.var (.i .i64) 0), (.var (.i .i64) 1), (.var .x 2), (.bin .add .i64 (.var (.i .i64) 3) (.lit (.i .i64) 1))])))
def es_L46 : List E := [(.ite (.or (.not (.cmp .lss (.var (.i .i64) 3) (.app (.i .i64) 0 0 [(.var .x 2)]))) (.and (.and (.cmp .lss (.var (.i .i64) 3) (.app (.i .i64) 0 0 [(.var .x 2)])) (.not (.cmp .eql (.app (.i .i64) 0 1 [(.var .x 2), (.var (.i .i64) 3), (.lit .x 0)]) (.var (.i .i64) 0)))) (.app .b 9046 0 [(.var (.i .i64) 0), (.var (.i .i64) 1), (.var .x 2), (.bin .add .i64 (.var (.i .i64) 3) (.lit (.i .i64) 1))]))) (.lit .b 1) (.lit .b 0)), (.ite (.or (.not (.cmp .lss (.var (.i .i64) 3) (.app (.i .i64) 0 0 [(.var .x 2)]))) (.and (.and (.cmp .lss (.var (.i .i64) 3) (.app (.i .i64) 0 0 [(.var .x 2)])) (.not (.cmp .eql (.app (.i .i64) 0 1 [(.var .x 2), (.var (.i .i64) 3), (.lit .x 0)]) (.var (.i .i64) 0)))) (.app .b 9046 0 [(.var (.i .i64) 0), (.var (.i .i64) 1), (.var .x 2), (.bin .add .i64 (.var (.i .i64) 3) (.lit (.i .i64) 1))]))) (.ite (.not (.cmp .lss (.var (.i .i64) 3) (.app (.i .i64) 0 0 [(.var .x 2)]))) (.lit (.i .i64) 0) (.app (.i .i64) 9046 1 [(.var (.i .i64) 0), (.var (.i .i64) 1), (.var .x 2), (.bin .add .i64 (.var (.i .i64) 3) (.lit (.i .i64) 1))])) (.ite (.and (.cmp .lss (.var (.i .i64) 3) (.app (.i .i64) 0 0 [(.var .x 2)])) (.cmp .eql (.app (.i .i64) 0 1 [(.var .x 2), (.var (.i .i64) 3), (.lit .x 0)]) (.var (.i .i64) 0))) (.app (.i .i64) 0 1 [(.var .x 2), (.var (.i .i64) 3), (.lit .x 1)]) (.app (.i .i64) 9046 1 [(.var (.i .i64) 0), (.var (.i .i64) 1), (.var .x 2), (.bin .add .i64 (.var (.i .i64) 3) (.lit (.i .i64) 1))]))), (.ite (.or (.not (.cmp .lss (.var (.i .i64) 3) (.app (.i .i64) 0 0 [(.var .x 2)]))) (.and (.and (.cmp .lss (.var (.i .i64) 3) (.app (.i .i64) 0 0 [(.var .x 2)])) (.not (.cmp .eql (.app (.i .i64) 0 1 [(.var .x 2), (.var (.i .i64) 3), (.lit .x 0)]) (.var (.i .i64) 0)))) (.app .b 9046 0 [(.var (.i .i64) 0), (.var (.i .i64) 1), (.var .x 2), (.bin .add .i64 (.var (.i .i64) 3) (.lit (.i .i64) 1))]))) (.and (.cmp .lss (.var (.i .i64) 3) (.app (.i .i64) 0 0 [(.var .x 2)])) (.app .b 9046 2 [(.var (.i .i64) 0), (.var (.i .i64) 1), (.var .x 2), (.bin .add .i64 (.var (.i .i64) 3) (.lit (.i .i64) 1))])) (.or (.and (.cmp .lss (.var (.i .i64) 3) (.app (.i .i64) 0 0 [(.var .x 2)])) (.cmp .eql (.app (.i .i64) 0 1 [(.var .x 2), (.var (.i .i64) 3), (.lit .x 0)]) (.var (.i .i64) 0))) (.app .b 9046 2 [(.var (.i .i64) 0), (.var (.i .i64) 1), (.var .x 2), (.bin .add .i64 (.var (.i .i64) 3) (.lit (.i .i64) 1))])))]
theorem ev_L46 : evL Try.prog G0 (tabOf cS0.fs) (evFn Try.prog G0 (tabOf cS0.fs) (ltOf cS0.ls) 40 10) 40 (subL cS0.ls 46 [true,false,true,false]) le46 (bodyAt Try.prog 46 [true,false,true,false]) = some (ob_L46, es_L46) := by kernel_rfl

def ob_46 : E := (.app .b 9046 1000000 [(.var (.i .i64) 2), (.var (.i .i64) 0), (.var .x 1), (.lit (.i .i64) 0)])
def es_46 : List E := [(.ite (.not (.app .b 9046 0 [(.var (.i .i64) 2), (.var (.i .i64) 0), (.var .x 1), (.lit (.i .i64) 0)])) (.app (.i .i64) 9046 1 [(.var (.i .i64) 2), (.var (.i .i64) 0), (.var .x 1), (.lit (.i .i64) 0)]) (.lit (.i .i64) 0)), (.and (.not (.app .b 9046 0 [(.var (.i .i64) 2), (.var (.i .i64) 0), (.var .x 1), (.lit (.i .i64) 0)])) (.app .b 9046 2 [(.var (.i .i64) 2), (.var (.i .i64) 0), (.var .x 1), (.lit (.i .i64) 0)]))]
theorem ev_46 : evE Try.prog G0 (tabOf cS1.fs) (ltOf cS1.ls) 40 10 e46 = some (ob_46, es_46) := by kernel_rfl

def ob_L51 : E := (.and (.and (.or (.not (.cmp .lss (.var (.i .i64) 5) (.app (.i .i64) 0 0 [(.var .x 2)]))) (.and (.and (.cmp .geq (.var (.i .i64) 5) (.lit (.i .i64) 0)) (.cmp .lss (.var (.i .i64) 5) (.app (.i .i64) 0 0 [(.var .x 2)]))) (.and (.or (.not (.cmp .leq (.app (.i .i64) 0 1 [(.var .x 2), (.var (.i .i64) 5), (.lit .x 1)]) (.var (.i .i64) 0))) (.and (.and (.cmp .geq (.var (.i .i64) 5) (.lit (.i .i64) 0)) (.cmp .lss (.var (.i .i64) 5) (.app (.i .i64) 0 0 [(.var .x 2)]))) (.and (.and (.cmp .geq (.var (.i .i64) 5) (.lit (.i .i64) 0)) (.cmp .lss (.var (.i .i64) 5) (.app (.i .i64) 0 0 [(.var .x 2)]))) (.cmp .leq (.app .x 0 0 [(.app .x 0 4 [(.var .x 3), (.app .x 0 3 [(.app .x 0 2 []), (.app (.i .i64) 0 1 [(.var .x 2), (.var (.i .i64) 5), (.lit .x 0)]), (.app (.i .i64) 0 1 [(.var .x 2), (.var (.i .i64) 5), (.lit .x 1)])])])]) (.lit .x 8796093022208))))) (.or (.cmp .leq (.app (.i .i64) 0 1 [(.var .x 2), (.var (.i .i64) 5), (.lit .x 1)]) (.var (.i .i64) 0)) (.and (.and (.cmp .geq (.var (.i .i64) 5) (.lit (.i .i64) 0)) (.cmp .lss (.var (.i .i64) 5) (.app (.i .i64) 0 0 [(.var .x 2)]))) (.and (.and (.cmp .geq (.var (.i .i64) 5) (.lit (.i .i64) 0)) (.cmp .lss (.var (.i .i64) 5) (.app (.i .i64) 0 0 [(.var .x 2)]))) (.cmp .leq (.app .x 0 0 [(.app .x 0 4 [(.var .x 4), (.app .x 0 3 [(.app .x 0 2 []), (.app (.i .i64) 0 1 [(.var .x 2), (.var (.i .i64) 5), (.lit .x 0)]), (.app (.i .i64) 0 1 [(.var .x 2), (.var (.i .i64) 5), (.lit .x 1)])])])]) (.lit .x 8796093022208)))))))) (.or (.not (.cmp .lss (.var (.i .i64) 5) (.app (.i .i64) 0 0 [(.var .x 2)]))) (.and (.ite (.cmp .leq (.app (.i .i64) 0 1 [(.var .x 2), (.var (.i .i64) 5), (.lit .x 1)]) (.var (.i .i64) 0)) (.cmp .leq (.app (.i .i64) 0 1 [(.var .x 2), (.var (.i .i64) 5), (.lit .x 1)]) (.var (.i .i64) 0)) (.not (.cmp .leq (.app (.i .i64) 0 1 [(.var .x 2), (.var (.i .i64) 5), (.lit .x 1)]) (.var (.i .i64) 0)))) (.app .b 9051 1000000 [(.var (.i .i64) 0), (.var (.i .i64) 1), (.var .x 2), (.ite (.cmp .leq (.app (.i .i64) 0 1 [(.var .x 2), (.var (.i .i64) 5), (.lit .x 1)]) (.var (.i .i64) 0)) (.app .x 0 4 [(.var .x 3), (.app .x 0 3 [(.app .x 0 2 []), (.app (.i .i64) 0 1 [(.var .x 2), (.var (.i .i64) 5), (.lit .x 0)]), (.app (.i .i64) 0 1 [(.var .x 2), (.var (.i .i64) 5), (.lit .x 1)])])]) (.var .x 3)), (.ite (.cmp .leq (.app (.i .i64) 0 1 [(.var .x 2), (.var (.i .i64) 5), (.lit .x 1)]) (.var (.i .i64) 0)) (.var .x 4) (.app .x 0 4 [(.var .x 4), (.app .x 0 3 [(.app .x 0 2 []), (.app (.i .i64) 0 1 [(.var .x 2), (.var (.i .i64) 5), (.lit .x 0)]), (.app (.i .i64) 0 1 [(.var .x 2), (.var (.i .i64) 5), (.lit .x 1)])])])), (.bin .add .i64 (.var (.i .i64) 5) (.lit (.i .i64) 1))])))) (.or (.not (.or (.not (.cmp .lss (.var (.i .i64) 5) (.app (.i .i64) 0 0 [(.var .x 2)]))) (.cmp .lss (.var (.i .i64) 5) (.app (.i .i64) 0 0 [(.var .x 2)])))) (.ite (.not (.cmp .lss (.var (.i .i64) 5) (.app (.i .i64) 0 0 [(.var .x 2)]))) (.not (.cmp .lss (.var (.i .i64) 5) (.app (.i .i64) 0 0 [(.var .x 2)]))) (.cmp .lss (.var (.i .i64) 5) (.app (.i .i64) 0 0 [(.var .x 2)])))))
def es_L51 : List E := [(.ite (.not (.cmp .lss (.var (.i .i64) 5) (.app (.i .i64) 0 0 [(.var .x 2)]))) (.var .x 3) (.app .x 9051 0 [(.var (.i .i64) 0), (.var (.i .i64) 1), (.var .x 2), (.ite (.cmp .leq (.app (.i .i64) 0 1 [(.var .x 2), (.var (.i .i64) 5), (.lit .x 1)]) (.var (.i .i64) 0)) (.app .x 0 4 [(.var .x 3), (.app .x 0 3 [(.app .x 0 2 []), (.app (.i .i64) 0 1 [(.var .x 2), (.var (.i .i64) 5), (.lit .x 0)]), (.app (.i .i64) 0 1 [(.var .x 2), (.var (.i .i64) 5), (.lit .x 1)])])]) (.var .x 3)), (.ite (.cmp .leq (.app (.i .i64) 0 1 [(.var .x 2), (.var (.i .i64) 5), (.lit .x 1)]) (.var (.i .i64) 0)) (.var .x 4) (.app .x 0 4 [(.var .x 4), (.app .x 0 3 [(.app .x 0 2 []), (.app (.i .i64) 0 1 [(.var .x 2), (.var (.i .i64) 5), (.lit .x 0)]), (.app (.i .i64) 0 1 [(.var .x 2), (.var (.i .i64) 5), (.lit .x 1)])])])), (.bin .add .i64 (.var (.i .i64) 5) (.lit (.i .i64) 1))])), (.ite (.not (.cmp .lss (.var (.i .i64) 5) (.app (.i .i64) 0 0 [(.var .x 2)]))) (.var .x 4) (.app .x 9051 1 [(.var (.i .i64) 0), (.var (.i .i64) 1), (.var .x 2), (.ite (.cmp .leq (.app (.i .i64) 0 1 [(.var .x 2), (.var (.i .i64) 5), (.lit .x 1)]) (.var (.i .i64) 0)) (.app .x 0 4 [(.var .x 3), (.app .x 0 3 [(.app .x 0 2 []), (.app (.i .i64) 0 1 [(.var .x 2), (.var (.i .i64) 5), (.lit .x 0)]), (.app (.i .i64) 0 1 [(.var .x 2), (.var (.i .i64) 5), (.lit .x 1)])])]) (.var .x 3)), (.ite (.cmp .leq (.app (.i .i64) 0 1 [(.var .x 2), (.var (.i .i64) 5), (.lit .x 1)]) (.var (.i .i64) 0)) (.var .x 4) (.app .x 0 4 [(.var .x 4), (.app .x 0 3 [(.app .x 0 2 []), (.app (.i .i64) 0 1 [(.var .x 2), (.var (.i .i64) 5), (.lit .x 0)]), (.app (.i .i64) 0 1 [(.var .x 2), (.var (.i .i64) 5), (.lit .x 1)])])])), (.bin .add .i64 (.var (.i .i64) 5) (.lit (.i .i64) 1))]))]
theorem ev_L51 : evL Try.prog G0 (tabOf cS0.fs) (evFn Try.prog G0 (tabOf cS0.fs) (ltOf cS0.ls) 40 10) 40 (subL cS0.ls 51 [true,true,true,false,true,false]) le51 (bodyAt Try.prog 51 [true,true,true,false,true,false]) = some (ob_L51, es_L51) := by kernel_rfl

def ob_LSi : E := (.and (.or (.not (.cmp .lss (.var (.i .i64) 3) (.app (.i .i64) 0 0 [(.var .x 0)]))) (.and (.and (.and (.cmp .geq (.var (.i .i64) 3) (.lit (.i .i64) 0)) (.cmp .lss (.var (.i .i64) 3) (.app (.i .i64) 0 0 [(.var .x 0)]))) (.and (.and (.cmp .geq (.var (.i .i64) 3) (.lit (.i .i64) 0)) (.cmp .lss (.var (.i .i64) 3) (.app (.i .i64) 0 0 [(.var .x 0)]))) (.app .b 61 1000000 [(.app (.i .i64) 0 1 [(.var .x 0), (.var (.i .i64) 3), (.lit .x 0)]), (.app (.i .i64) 0 1 [(.var .x 0), (.var (.i .i64) 3), (.lit .x 1)]), (.var (.i .i64) 1), (.var (.i .i64) 2)]))) (.or (.not (.app .b 61 0 [(.app (.i .i64) 0 1 [(.var .x 0), (.var (.i .i64) 3), (.lit .x 0)]), (.app (.i .i64) 0 1 [(.var .x 0), (.var (.i .i64) 3), (.lit .x 1)]), (.var (.i .i64) 1), (.var (.i .i64) 2)])) (.and (.cmp .geq (.var (.i .i64) 3) (.lit (.i .i64) 0)) (.cmp .lss (.var (.i .i64) 3) (.app (.i .i64) 0 0 [(.var .x 0)])))))) (.or (.not (.cmp .lss (.var (.i .i64) 3) (.app (.i .i64) 0 0 [(.var .x 0)]))) (.app .b 9156 1000000 [(.var .x 0), (.ite (.app .b 61 0 [(.app (.i .i64) 0 1 [(.var .x 0), (.var (.i .i64) 3), (.lit .x 0)]), (.app (.i .i64) 0 1 [(.var .x 0), (.var (.i .i64) 3), (.lit .x 1)]), (.var (.i .i64) 1), (.var (.i .i64) 2)]) (.app (.i .i64) 0 1 [(.var .x 0), (.var (.i .i64) 3), (.lit .x 0)]) (.var (.i .i64) 1)), (.ite (.app .b 61 0 [(.app (.i .i64) 0 1 [(.var .x 0), (.var (.i .i64) 3), (.lit .x 0)]), (.app (.i .i64) 0 1 [(.var .x 0), (.var (.i .i64) 3), (.lit .x 1)]), (.var (.i .i64) 1), (.var (.i .i64) 2)]) (.app (.i .i64) 0 1 [(.var .x 0), (.var (.i .i64) 3), (.lit .x 1)]) (.var (.i .i64) 2)), (.bin .add .i64 (.var (.i .i64) 3) (.lit (.i .i64) 1))])))
def es_LSi : List E := [(.ite (.not (.cmp .lss (.var (.i .i64) 3) (.app (.i .i64) 0 0 [(.var .x 0)]))) (.var (.i .i64) 1) (.app (.i .i64) 9156 0 [(.var .x 0), (.ite (.app .b 61 0 [(.app (.i .i64) 0 1 [(.var .x 0), (.var (.i .i64) 3), (.lit .x 0)]), (.app (.i .i64) 0 1 [(.var .x 0), (.var (.i .i64) 3), (.lit .x 1)]), (.var (.i .i64) 1), (.var (.i .i64) 2)]) (.app (.i .i64) 0 1 [(.var .x 0), (.var (.i .i64) 3), (.lit .x 0)]) (.var (.i .i64) 1)), (.ite (.app .b 61 0 [(.app (.i .i64) 0 1 [(.var .x 0), (.var (.i .i64) 3), (.lit .x 0)]), (.app (.i .i64) 0 1 [(.var .x 0), (.var (.i .i64) 3), (.lit .x 1)]), (.var (.i .i64) 1), (.var (.i .i64) 2)]) (.app (.i .i64) 0 1 [(.var .x 0), (.var (.i .i64) 3), (.lit .x 1)]) (.var (.i .i64) 2)), (.bin .add .i64 (.var (.i .i64) 3) (.lit (.i .i64) 1))])), (.ite (.not (.cmp .lss (.var (.i .i64) 3) (.app (.i .i64) 0 0 [(.var .x 0)]))) (.var (.i .i64) 2) (.app (.i .i64) 9156 1 [(.var .x 0), (.ite (.app .b 61 0 [(.app (.i .i64) 0 1 [(.var .x 0), (.var (.i .i64) 3), (.lit .x 0)]), (.app (.i .i64) 0 1 [(.var .x 0), (.var (.i .i64) 3), (.lit .x 1)]), (.var (.i .i64) 1), (.var (.i .i64) 2)]) (.app (.i .i64) 0 1 [(.var .x 0), (.var (.i .i64) 3), (.lit .x 0)]) (.var (.i .i64) 1)), (.ite (.app .b 61 0 [(.app (.i .i64) 0 1 [(.var .x 0), (.var (.i .i64) 3), (.lit .x 0)]), (.app (.i .i64) 0 1 [(.var .x 0), (.var (.i .i64) 3), (.lit .x 1)]), (.var (.i .i64) 1), (.var (.i .i64) 2)]) (.app (.i .i64) 0 1 [(.var .x 0), (.var (.i .i64) 3), (.lit .x 1)]) (.var (.i .i64) 2)), (.bin .add .i64 (.var (.i .i64) 3) (.lit (.i .i64) 1))]))]
theorem ev_LSi : evL Try.prog G0 (tabOf cS2.fs) (evFn Try.prog G0 (tabOf cS2.fs) (ltOf cS2.ls) 40 10) 40 (subL cS2.ls 56 [true,true,false,false,false,true,false,true,false,true,false]) leSi (bodyAt Try.prog 56 [true,true,false,false,false,true,false,true,false,true,false]) = some (ob_LSi, es_LSi) := by kernel_rfl

def ob_LSo : E := (.and (.and (.or (.not (.cmp .gtr (.app (.i .i64) 0 0 [(.var .x 0)]) (.lit (.i .i64) 0))) (.and (.cmp .lss (.lit (.i .i64) 0) (.app (.i .i64) 0 0 [(.var .x 0)])) (.and (.app .b 9156 1000000 [(.var .x 0), (.app (.i .i64) 0 1 [(.var .x 0), (.lit (.i .i64) 0), (.lit .x 0)]), (.app (.i .i64) 0 1 [(.var .x 0), (.lit (.i .i64) 0), (.lit .x 1)]), (.lit (.i .i64) 0)]) (.and (.cmp .leq (.app .x 0 0 [(.app .x 0 4 [(.var .x 1), (.app .x 0 3 [(.app .x 0 2 []), (.app (.i .i64) 9156 0 [(.var .x 0), (.app (.i .i64) 0 1 [(.var .x 0), (.lit (.i .i64) 0), (.lit .x 0)]), (.app (.i .i64) 0 1 [(.var .x 0), (.lit (.i .i64) 0), (.lit .x 1)]), (.lit (.i .i64) 0)]), (.app (.i .i64) 9156 1 [(.var .x 0), (.app (.i .i64) 0 1 [(.var .x 0), (.lit (.i .i64) 0), (.lit .x 0)]), (.app (.i .i64) 0 1 [(.var .x 0), (.lit (.i .i64) 0), (.lit .x 1)]), (.lit (.i .i64) 0)])])])]) (.lit .x 8796093022208)) (.app .b 59 1000000 [(.var .x 0), (.app (.i .i64) 9156 0 [(.var .x 0), (.app (.i .i64) 0 1 [(.var .x 0), (.lit (.i .i64) 0), (.lit .x 0)]), (.app (.i .i64) 0 1 [(.var .x 0), (.lit (.i .i64) 0), (.lit .x 1)]), (.lit (.i .i64) 0)])]))))) (.or (.not (.cmp .gtr (.app (.i .i64) 0 0 [(.var .x 0)]) (.lit (.i .i64) 0))) (.app .b 9056 1000000 [(.app .x 59 0 [(.var .x 0), (.app (.i .i64) 9156 0 [(.var .x 0), (.app (.i .i64) 0 1 [(.var .x 0), (.lit (.i .i64) 0), (.lit .x 0)]), (.app (.i .i64) 0 1 [(.var .x 0), (.lit (.i .i64) 0), (.lit .x 1)]), (.lit (.i .i64) 0)])]), (.app .x 0 4 [(.var .x 1), (.app .x 0 3 [(.app .x 0 2 []), (.app (.i .i64) 9156 0 [(.var .x 0), (.app (.i .i64) 0 1 [(.var .x 0), (.lit (.i .i64) 0), (.lit .x 0)]), (.app (.i .i64) 0 1 [(.var .x 0), (.lit (.i .i64) 0), (.lit .x 1)]), (.lit (.i .i64) 0)]), (.app (.i .i64) 9156 1 [(.var .x 0), (.app (.i .i64) 0 1 [(.var .x 0), (.lit (.i .i64) 0), (.lit .x 0)]), (.app (.i .i64) 0 1 [(.var .x 0), (.lit (.i .i64) 0), (.lit .x 1)]), (.lit (.i .i64) 0)])])])]))) (.or (.not (.or (.not (.cmp .gtr (.app (.i .i64) 0 0 [(.var .x 0)]) (.lit (.i .i64) 0))) (.cmp .gtr (.app (.i .i64) 0 0 [(.var .x 0)]) (.lit (.i .i64) 0)))) (.ite (.not (.cmp .gtr (.app (.i .i64) 0 0 [(.var .x 0)]) (.lit (.i .i64) 0))) (.not (.cmp .gtr (.app (.i .i64) 0 0 [(.var .x 0)]) (.lit (.i .i64) 0))) (.cmp .gtr (.app (.i .i64) 0 0 [(.var .x 0)]) (.lit (.i .i64) 0)))))
def es_LSo : List E := [(.ite (.not (.cmp .gtr (.app (.i .i64) 0 0 [(.var .x 0)]) (.lit (.i .i64) 0))) (.var .x 1) (.app .x 9056 0 [(.app .x 59 0 [(.var .x 0), (.app (.i .i64) 9156 0 [(.var .x 0), (.app (.i .i64) 0 1 [(.var .x 0), (.lit (.i .i64) 0), (.lit .x 0)]), (.app (.i .i64) 0 1 [(.var .x 0), (.lit (.i .i64) 0), (.lit .x 1)]), (.lit (.i .i64) 0)])]), (.app .x 0 4 [(.var .x 1), (.app .x 0 3 [(.app .x 0 2 []), (.app (.i .i64) 9156 0 [(.var .x 0), (.app (.i .i64) 0 1 [(.var .x 0), (.lit (.i .i64) 0), (.lit .x 0)]), (.app (.i .i64) 0 1 [(.var .x 0), (.lit (.i .i64) 0), (.lit .x 1)]), (.lit (.i .i64) 0)]), (.app (.i .i64) 9156 1 [(.var .x 0), (.app (.i .i64) 0 1 [(.var .x 0), (.lit (.i .i64) 0), (.lit .x 0)]), (.app (.i .i64) 0 1 [(.var .x 0), (.lit (.i .i64) 0), (.lit .x 1)]), (.lit (.i .i64) 0)])])])]))]
theorem ev_LSo : evL Try.prog G0 (tabOf cS3.fs) (evFn Try.prog G0 (tabOf cS3.fs) (ltOf cS3.ls) 40 10) 40 (subL cS3.ls 56 [true,true,false,false]) leSo (bodyAt Try.prog 56 [true,true,false,false]) = some (ob_LSo, es_LSo) := by kernel_rfl

def ob_56 : E := (.app .b 9056 1000000 [(.var .x 0), (.app .x 0 2 [])])
def es_56 : List E := [(.app .x 9056 0 [(.var .x 0), (.app .x 0 2 [])])]
theorem ev_56 : evE Try.prog G0 (tabOf cS4.fs) (ltOf cS4.ls) 40 10 e56 = some (ob_56, es_56) := by kernel_rfl

def ob_51 : E := (.and (.or (.or (.cmp .lss (.var (.i .i64) 2) (.var (.i .i64) 0)) (.cmp .gtr (.var (.i .i64) 2) (.lit (.i .i64) 1099511627776))) (.and (.app .b 9051 1000000 [(.var (.i .i64) 2), (.var (.i .i64) 0), (.var .x 1), (.app .x 0 2 []), (.app .x 0 2 []), (.lit (.i .i64) 0)]) (.app .b 56 1000000 [(.app .x 9051 0 [(.var (.i .i64) 2), (.var (.i .i64) 0), (.var .x 1), (.app .x 0 2 []), (.app .x 0 2 []), (.lit (.i .i64) 0)])]))) (.or (.or (.cmp .lss (.var (.i .i64) 2) (.var (.i .i64) 0)) (.cmp .gtr (.var (.i .i64) 2) (.lit (.i .i64) 1099511627776))) (.not (.or (.cmp .lss (.var (.i .i64) 2) (.var (.i .i64) 0)) (.cmp .gtr (.var (.i .i64) 2) (.lit (.i .i64) 1099511627776))))))
def es_51 : List E := [(.ite (.or (.cmp .lss (.var (.i .i64) 2) (.var (.i .i64) 0)) (.cmp .gtr (.var (.i .i64) 2) (.lit (.i .i64) 1099511627776))) (.var (.i .i64) 0) (.var (.i .i64) 2)), (.ite (.or (.cmp .lss (.var (.i .i64) 2) (.var (.i .i64) 0)) (.cmp .gtr (.var (.i .i64) 2) (.lit (.i .i64) 1099511627776))) (.var .x 1) (.app .x 9051 1 [(.var (.i .i64) 2), (.var (.i .i64) 0), (.var .x 1), (.app .x 0 2 []), (.app .x 0 2 []), (.lit (.i .i64) 0)])), (.ite (.or (.cmp .lss (.var (.i .i64) 2) (.var (.i .i64) 0)) (.cmp .gtr (.var (.i .i64) 2) (.lit (.i .i64) 1099511627776))) (.app .x 0 2 []) (.app .x 56 0 [(.app .x 9051 0 [(.var (.i .i64) 2), (.var (.i .i64) 0), (.var .x 1), (.app .x 0 2 []), (.app .x 0 2 []), (.lit (.i .i64) 0)])])), (.ite (.or (.cmp .lss (.var (.i .i64) 2) (.var (.i .i64) 0)) (.cmp .gtr (.var (.i .i64) 2) (.lit (.i .i64) 1099511627776))) (.lit (.i .i64) 2) (.lit (.i .i64) 0))]
theorem ev_51 : evE Try.prog G0 (tabOf cS5.fs) (ltOf cS5.ls) 40 10 e51 = some (ob_51, es_51) := by kernel_rfl

def ob_50 : E := (.and (.or (.cmp .eql (.var (.i .i64) 0) (.lit (.i .i64) 1099511627776)) (.app .b 51 1000000 [(.var (.i .i64) 0), (.var .x 1), (.bin .add .i64 (.var (.i .i64) 0) (.lit (.i .i64) 1))])) (.or (.cmp .eql (.var (.i .i64) 0) (.lit (.i .i64) 1099511627776)) (.not (.cmp .eql (.var (.i .i64) 0) (.lit (.i .i64) 1099511627776)))))
def es_50 : List E := [(.ite (.cmp .eql (.var (.i .i64) 0) (.lit (.i .i64) 1099511627776)) (.var (.i .i64) 0) (.app (.i .i64) 51 0 [(.var (.i .i64) 0), (.var .x 1), (.bin .add .i64 (.var (.i .i64) 0) (.lit (.i .i64) 1))])), (.ite (.cmp .eql (.var (.i .i64) 0) (.lit (.i .i64) 1099511627776)) (.var .x 1) (.app .x 51 1 [(.var (.i .i64) 0), (.var .x 1), (.bin .add .i64 (.var (.i .i64) 0) (.lit (.i .i64) 1))])), (.ite (.cmp .eql (.var (.i .i64) 0) (.lit (.i .i64) 1099511627776)) (.app .x 0 2 []) (.app .x 51 2 [(.var (.i .i64) 0), (.var .x 1), (.bin .add .i64 (.var (.i .i64) 0) (.lit (.i .i64) 1))]))]
theorem ev_50 : evE Try.prog G0 (tabOf cS6.fs) (ltOf cS6.ls) 40 10 e50 = some (ob_50, es_50) := by kernel_rfl

def ob_48 : E := (.app .b 56 1000000 [(.var .x 1)])
def es_48 : List E := [(.app .x 56 0 [(.var .x 1)])]
theorem ev_48 : evE Try.prog G0 (tabOf cS6.fs) (ltOf cS6.ls) 40 10 e48 = some (ob_48, es_48) := by kernel_rfl

def ob_45 : E := (.and (.app .b 56 1000000 [(.var .x 1)]) (.or (.cmp .eql (.app (.i .i64) 0 0 [(.app .x 56 0 [(.var .x 1)])]) (.lit (.i .i64) 0)) (.cmp .lss (.lit (.i .i64) 0) (.app (.i .i64) 0 0 [(.app .x 56 0 [(.var .x 1)])]))))
def es_45 : List E := [(.ite (.cmp .eql (.app (.i .i64) 0 0 [(.app .x 56 0 [(.var .x 1)])]) (.lit (.i .i64) 0)) (.lit (.i .i64) 0) (.app (.i .i64) 0 1 [(.app .x 56 0 [(.var .x 1)]), (.lit (.i .i64) 0), (.lit .x 0)])), (.ite (.cmp .eql (.app (.i .i64) 0 0 [(.app .x 56 0 [(.var .x 1)])]) (.lit (.i .i64) 0)) (.lit (.i .i64) 0) (.app (.i .i64) 0 1 [(.app .x 56 0 [(.var .x 1)]), (.lit (.i .i64) 0), (.lit .x 1)])), (.not (.cmp .eql (.app (.i .i64) 0 0 [(.app .x 56 0 [(.var .x 1)])]) (.lit (.i .i64) 0)))]
theorem ev_45 : evE Try.prog G0 (tabOf cS6.fs) (ltOf cS6.ls) 40 10 e45 = some (ob_45, es_45) := by kernel_rfl

def ob_49 : E := (.and (.or (.or (.cmp .lss (.var (.i .i64) 2) (.lit (.i .i64) 0)) (.cmp .gtr (.var (.i .i64) 2) (.lit (.i .i64) 4095))) (.app .b 59 1000000 [(.var .x 1), (.var (.i .i64) 2)])) (.or (.or (.cmp .lss (.var (.i .i64) 2) (.lit (.i .i64) 0)) (.cmp .gtr (.var (.i .i64) 2) (.lit (.i .i64) 4095))) (.or (.cmp .eql (.app (.i .i64) 0 0 [(.app .x 59 0 [(.var .x 1), (.var (.i .i64) 2)])]) (.app (.i .i64) 0 0 [(.var .x 1)])) (.not (.or (.cmp .lss (.var (.i .i64) 2) (.lit (.i .i64) 0)) (.cmp .gtr (.var (.i .i64) 2) (.lit (.i .i64) 4095)))))))
def es_49 : List E := [(.var (.i .i64) 0), (.ite (.or (.cmp .lss (.var (.i .i64) 2) (.lit (.i .i64) 0)) (.cmp .gtr (.var (.i .i64) 2) (.lit (.i .i64) 4095))) (.var .x 1) (.ite (.cmp .eql (.app (.i .i64) 0 0 [(.app .x 59 0 [(.var .x 1), (.var (.i .i64) 2)])]) (.app (.i .i64) 0 0 [(.var .x 1)])) (.var .x 1) (.app .x 59 0 [(.var .x 1), (.var (.i .i64) 2)]))), (.ite (.or (.cmp .lss (.var (.i .i64) 2) (.lit (.i .i64) 0)) (.cmp .gtr (.var (.i .i64) 2) (.lit (.i .i64) 4095))) (.lit (.i .i64) 2) (.ite (.cmp .eql (.app (.i .i64) 0 0 [(.app .x 59 0 [(.var .x 1), (.var (.i .i64) 2)])]) (.app (.i .i64) 0 0 [(.var .x 1)])) (.lit (.i .i64) 6) (.lit (.i .i64) 0)))]
theorem ev_49 : evE Try.prog G0 (tabOf cS6.fs) (ltOf cS6.ls) 40 10 e49 = some (ob_49, es_49) := by kernel_rfl

def ob_53 : E := (.and (.or (.or (.or (.or (.cmp .lss (.var (.i .i64) 2) (.lit (.i .i64) 0)) (.cmp .gtr (.var (.i .i64) 2) (.lit (.i .i64) 4095))) (.cmp .leq (.var (.i .i64) 3) (.var (.i .i64) 0))) (.cmp .gtr (.bin .sub .i64 (.var (.i .i64) 3) (.var (.i .i64) 0)) (.lit (.i .i64) 2147483648))) (.and (.app .b 59 1000000 [(.var .x 1), (.var (.i .i64) 2)]) (.cmp .leq (.app .x 0 0 [(.app .x 0 4 [(.app .x 59 0 [(.var .x 1), (.var (.i .i64) 2)]), (.app .x 0 3 [(.app .x 0 2 []), (.var (.i .i64) 2), (.var (.i .i64) 3)])])]) (.lit .x 8796093022208)))) (.or (.or (.or (.or (.cmp .lss (.var (.i .i64) 2) (.lit (.i .i64) 0)) (.cmp .gtr (.var (.i .i64) 2) (.lit (.i .i64) 4095))) (.cmp .leq (.var (.i .i64) 3) (.var (.i .i64) 0))) (.cmp .gtr (.bin .sub .i64 (.var (.i .i64) 3) (.var (.i .i64) 0)) (.lit (.i .i64) 2147483648))) (.not (.or (.or (.or (.cmp .lss (.var (.i .i64) 2) (.lit (.i .i64) 0)) (.cmp .gtr (.var (.i .i64) 2) (.lit (.i .i64) 4095))) (.cmp .leq (.var (.i .i64) 3) (.var (.i .i64) 0))) (.cmp .gtr (.bin .sub .i64 (.var (.i .i64) 3) (.var (.i .i64) 0)) (.lit (.i .i64) 2147483648))))))
def es_53 : List E := [(.var (.i .i64) 0), (.ite (.or (.or (.or (.cmp .lss (.var (.i .i64) 2) (.lit (.i .i64) 0)) (.cmp .gtr (.var (.i .i64) 2) (.lit (.i .i64) 4095))) (.cmp .leq (.var (.i .i64) 3) (.var (.i .i64) 0))) (.cmp .gtr (.bin .sub .i64 (.var (.i .i64) 3) (.var (.i .i64) 0)) (.lit (.i .i64) 2147483648))) (.var .x 1) (.app .x 0 4 [(.app .x 59 0 [(.var .x 1), (.var (.i .i64) 2)]), (.app .x 0 3 [(.app .x 0 2 []), (.var (.i .i64) 2), (.var (.i .i64) 3)])])), (.ite (.or (.or (.or (.cmp .lss (.var (.i .i64) 2) (.lit (.i .i64) 0)) (.cmp .gtr (.var (.i .i64) 2) (.lit (.i .i64) 4095))) (.cmp .leq (.var (.i .i64) 3) (.var (.i .i64) 0))) (.cmp .gtr (.bin .sub .i64 (.var (.i .i64) 3) (.var (.i .i64) 0)) (.lit (.i .i64) 2147483648))) (.lit (.i .i64) 2) (.lit (.i .i64) 0))]
theorem ev_53 : evE Try.prog G0 (tabOf cS6.fs) (ltOf cS6.ls) 40 10 e53 = some (ob_53, es_53) := by kernel_rfl

theorem cS0ok : cS0.OK Try.prog G0 := Ctx.OK.nil
theorem hasL_cons (r : List Int) (l : RL) (i : Int) : hasL (r :: l) i = (idR r == i || hasL l i) := List.any_cons
theorem dlL_cons (r : List Int) (l : RL) (i : Int) : dlL (r :: l) i = if idR r = i then dlR r else dlL l i := by
  unfold dlL
  by_cases h : idR r = i <;> simp [List.find?_cons, h]

theorem dlL_none {l : RL} {i : Int} (h : hasL l i = false) : dlL l i = 0 := by
  unfold dlL
  cases hf : l.find? (fun r => idR r == i) with
  | none => rfl
  | some r =>
    have : hasL l i = true := List.any_eq_true.2 ⟨r, List.mem_of_find?_eq_some hf, by have g := List.find?_some hf; exact g⟩
    rw [h] at this; cases this

set_option maxHeartbeats 4000000 in
theorem lo46 : ItemOK Try.prog G0 46 [true,false,true,false] le46 := by
  refine cS0ok.loopP mixed mu46 rfl ?_ ev_L46 _ rfl _ rfl ?_
  · exact ⟨_, _, _, Try.func46, rfl, rfl⟩
  intro n xs hf hp hmu
  obtain ⟨l, hl, hS, hF⟩ := self_P le46 mu46 n cS0.l (by decide)
  show ob_L46.tt (Tabs.F (enL le46 mu46 n :: cS0.l)) _ = true ∧ outsP le46.ent.fn _ (Tabs.F (enL le46 mu46 n :: cS0.l)) _ _ _ _
  rw [hl]
  have F9046_0 : ∀ xs, l.F 9046 0 xs = le46.ent.fn 0 xs := hS.1 0 rfl
  have F9046_1 : ∀ xs, l.F 9046 1 xs = le46.ent.fn 1 xs := hS.1 1 rfl
  have F9046_2 : ∀ xs, l.F 9046 2 xs = le46.ent.fn 2 xs := hS.1 2 rfl
  have P9046 := hS.2
  replace P9046 : ∀ xs, (i2b (K.b.norm (l.F 9046 1000000 xs)) = true) = _ := P9046
  match xs, hf with
  | [id, now, c, i], hf =>
    obtain ⟨h0, h1, h2, h3, _⟩ := hf
    simp only [norm_i, norm_x] at h0 h1 h3
    obtain ⟨⟨p1, p2⟩, p3, p4⟩ := hp
    simp only [ewA, ewL, preC, binI, dvI, shI, cmpB, env, bi, List.headD, List.tail, List.map, Nat.reduceAdd] at p1 p2 p3 p4 hmu
    unfold capR at p2
    have e1 : le46.ent.fn = fnL46 := rfl
    have e2 : le46.ent.pre = preL46 := rfl
    by_cases hlt : i < ((dc c).length : Int)
    · obtain ⟨r, hr, hrf, hrm, hrd⟩ := row_at p1 p3 hlt
      match r, hrf with
      | [a, b], hrf =>
        obtain ⟨k0, k1, _⟩ := hrf
        simp only [norm_i] at k0 k1
        have hnx : preL46 [id, now, c, i + 1] ∧ mu46 [id, now, c, i + 1] < n := ⟨⟨⟨p1, by show ((dc c).length : Int) < capR; unfold capR; omega⟩, by show 0 ≤ i + 1; omega, by show i + 1 ≤ ((dc c).length : Int); omega⟩, by simp only [mu46, ewA, ewL, preC, binI, dvI, shI, cmpB, env, bi, List.headD, List.tail, List.map, Nat.reduceAdd] at hmu ⊢; omega⟩
        have hh : hasL ((dc c).drop i.toNat) id = (a == id || hasL ((dc c).drop (i + 1).toNat) id) := by rw [hrd]; exact hasL_cons _ _ _
        have hd : dlL ((dc c).drop i.toNat) id = if a = id then b else dlL ((dc c).drop (i + 1).toNat) id := by rw [hrd]; exact dlL_cons _ _ _
        by_cases hid : a = id
        · refine ⟨?_, ?_, ?_, ?_, trivial⟩
          · simp (disch := omega) only [ob_L46, ewA, ewL, preC, binI, dvI, shI, cmpB, env, bi, List.headD, List.tail, List.map, Nat.reduceAdd, ewB, ewM, if_true, if_false, implies_true, forall_const, ne_eq, reduceCtorEq, Int.reduceEq, Int.reduceLT, Int.reduceLE, Int.reduceToNat, Int.reduceAdd, Int.reduceSub, Int.reduceMul, Int.reduceNeg, Int.reduceBEq, Nat.reduceLT, Nat.reduceEqDiff, F9046_0, F9046_1, F9046_2, P9046, h0, h1, h3, hlt, hr, k0, k1, hid, e2]
            exact ⟨p3, p3⟩
          all_goals simp (disch := omega) only [es_L46, ewA, ewL, preC, binI, dvI, shI, cmpB, env, bi, List.headD, List.tail, List.map, Nat.reduceAdd, ewB, ewM, if_true, if_false, implies_true, forall_const, ne_eq, reduceCtorEq, Int.reduceEq, Int.reduceLT, Int.reduceLE, Int.reduceToNat, Int.reduceAdd, Int.reduceSub, Int.reduceMul, Int.reduceNeg, Int.reduceBEq, Nat.reduceLT, Nat.reduceEqDiff, F9046_0, F9046_1, F9046_2, P9046, h0, h1, h3, hlt, hr, k0, k1, hid, e1]
          · show K.b.norm (b2i (!hasL ((dc c).drop i.toNat) id)) = 0
            rw [hh, hid, beq_self_eq_true, Bool.true_or]; rfl
          · show IntKind.i64.wrap (dlL ((dc c).drop i.toNat) id) = b
            rw [hd, if_pos hid]; exact k1
          · show K.b.norm (b2i (hasL ((dc c).drop i.toNat) id)) = _
            rw [hh, hid, beq_self_eq_true, Bool.true_or, norm_b2i]; simp
        · refine ⟨?_, ?_, ?_, ?_, trivial⟩
          · simp (disch := omega) only [ob_L46, ewA, ewL, preC, binI, dvI, shI, cmpB, env, bi, List.headD, List.tail, List.map, Nat.reduceAdd, ewB, ewM, if_true, if_false, implies_true, forall_const, ne_eq, reduceCtorEq, Int.reduceEq, Int.reduceLT, Int.reduceLE, Int.reduceToNat, Int.reduceAdd, Int.reduceSub, Int.reduceMul, Int.reduceNeg, Int.reduceBEq, Nat.reduceLT, Nat.reduceEqDiff, F9046_0, F9046_1, F9046_2, P9046, h0, h1, h3, hlt, hr, k0, k1, hid, e2]
            exact ⟨p3, hnx⟩
          all_goals simp (disch := omega) only [es_L46, ewA, ewL, preC, binI, dvI, shI, cmpB, env, bi, List.headD, List.tail, List.map, Nat.reduceAdd, ewB, ewM, if_true, if_false, implies_true, forall_const, ne_eq, reduceCtorEq, Int.reduceEq, Int.reduceLT, Int.reduceLE, Int.reduceToNat, Int.reduceAdd, Int.reduceSub, Int.reduceMul, Int.reduceNeg, Int.reduceBEq, Nat.reduceLT, Nat.reduceEqDiff, F9046_0, F9046_1, F9046_2, P9046, h0, h1, h3, hlt, hr, k0, k1, hid, e1]
          · show K.b.norm (b2i (!hasL ((dc c).drop i.toNat) id)) = if i2b (K.b.norm (b2i (!hasL ((dc c).drop (i + 1).toNat) id))) = true then 1 else 0
            rw [hh, norm_b2i, norm_b2i, i2b_b2i]
            have y1 : (a == id) = false := by simpa using hid
            rw [y1]; cases hasL ((dc c).drop (i + 1).toNat) id <;> rfl
          · rw [ite_self]
            show IntKind.i64.wrap (dlL ((dc c).drop i.toNat) id) = IntKind.i64.wrap (dlL ((dc c).drop (i + 1).toNat) id)
            rw [hd, if_neg hid]
          · show K.b.norm (b2i (hasL ((dc c).drop i.toNat) id)) = if i2b (K.b.norm (b2i (!hasL ((dc c).drop (i + 1).toNat) id))) = true then b2i (decide True && i2b (K.b.norm (b2i (hasL ((dc c).drop (i + 1).toNat) id)))) else b2i (decide True && a == id || i2b (K.b.norm (b2i (hasL ((dc c).drop (i + 1).toNat) id))))
            simp only [hh, norm_b2i, i2b_b2i]
            have y1 : (a == id) = false := by simpa using hid
            rw [y1]; cases hasL ((dc c).drop (i + 1).toNat) id <;> rfl
    · have hd : (dc c).drop i.toNat = [] := List.drop_of_length_le (by omega)
      refine ⟨?_, ?_, ?_, ?_, trivial⟩
      · simp (disch := omega) only [ob_L46, ewA, ewL, preC, binI, dvI, shI, cmpB, env, bi, List.headD, List.tail, List.map, Nat.reduceAdd, ewB, ewM, if_true, if_false, implies_true, forall_const, ne_eq, reduceCtorEq, Int.reduceEq, Int.reduceLT, Int.reduceLE, Int.reduceToNat, Int.reduceAdd, Int.reduceSub, Int.reduceMul, Int.reduceNeg, Int.reduceBEq, Nat.reduceLT, Nat.reduceEqDiff, F9046_0, F9046_1, F9046_2, P9046, h0, h1, h3, hlt]
      all_goals (simp (disch := omega) only [es_L46, ewA, ewL, preC, binI, dvI, shI, cmpB, env, bi, List.headD, List.tail, List.map, Nat.reduceAdd, ewB, ewM, if_true, if_false, implies_true, forall_const, ne_eq, reduceCtorEq, Int.reduceEq, Int.reduceLT, Int.reduceLE, Int.reduceToNat, Int.reduceAdd, Int.reduceSub, Int.reduceMul, Int.reduceNeg, Int.reduceBEq, Nat.reduceLT, Nat.reduceEqDiff, F9046_0, F9046_1, F9046_2, P9046, h0, h1, h3, hlt, e1, fnL46, hd]; rfl)

theorem ok46 : EntryOK Try.prog G0 e46 := (cS0ok.addL lo46 rfl).entryP mixed ev_46 _ rfl _ rfl fun xs hf hp => by
  obtain ⟨l, hl, hF⟩ := ctx_P (l0 := cS1.l)
  show ob_46.tt cS1.l.F _ = true ∧ outsP e46.fn _ cS1.l.F _ _ _ _
  rw [hl]
  have F9046_0 : ∀ xs, l.F 9046 0 xs = le46.ent.fn 0 xs := (hF le46.ent (by rfl) (by decide)).1 0 rfl
  have F9046_1 : ∀ xs, l.F 9046 1 xs = le46.ent.fn 1 xs := (hF le46.ent (by rfl) (by decide)).1 1 rfl
  have F9046_2 : ∀ xs, l.F 9046 2 xs = le46.ent.fn 2 xs := (hF le46.ent (by rfl) (by decide)).1 2 rfl
  have P9046 := (hF le46.ent (by rfl) (by decide)).2
  replace P9046 : ∀ xs, (i2b (K.b.norm (l.F 9046 1000000 xs)) = true) = _ := P9046
  match xs, hf with
  | [now, c, id], hf =>
    obtain ⟨h0, h1, h2, _⟩ := hf
    simp only [norm_i, norm_x] at h0 h2
    obtain ⟨p1, p2⟩ := hp
    simp only [ewA, ewL, preC, binI, dvI, shI, cmpB, env, bi, List.headD, List.tail, List.map, Nat.reduceAdd] at p1 p2
    refine ⟨?_, ?_, ?_, trivial⟩
    · simp (disch := omega) only [ob_46, ewA, ewL, preC, binI, dvI, shI, cmpB, env, bi, List.headD, List.tail, List.map, Nat.reduceAdd, ewB, ewM, if_true, if_false, implies_true, forall_const, ne_eq, reduceCtorEq, Int.reduceEq, Int.reduceLT, Int.reduceLE, Int.reduceToNat, Int.reduceAdd, Int.reduceSub, Int.reduceMul, Int.reduceNeg, Int.reduceBEq, Nat.reduceLT, Nat.reduceEqDiff, F9046_0, F9046_1, F9046_2, P9046, h0, h2]
      exact ⟨⟨p1, p2⟩, by show (0 : Int) ≤ 0; omega, by show (0 : Int) ≤ ((dc c).length : Int); omega⟩
    all_goals simp (disch := omega) only [es_46, e46, ewA, ewL, preC, binI, dvI, shI, cmpB, env, bi, List.headD, List.tail, List.map, Nat.reduceAdd, ewB, ewM, if_true, if_false, implies_true, forall_const, ne_eq, reduceCtorEq, Int.reduceEq, Int.reduceLT, Int.reduceLE, Int.reduceToNat, Int.reduceAdd, Int.reduceSub, Int.reduceMul, Int.reduceNeg, Int.reduceBEq, Nat.reduceLT, Nat.reduceEqDiff, F9046_0, F9046_1, F9046_2, P9046, h0, h2]
    · show IntKind.i64.wrap (dlL (dc c) id) = if i2b (K.b.norm (b2i (!hasL (dc c) id))) = false then IntKind.i64.wrap (dlL (dc c) id) else 0
      rw [norm_b2i, i2b_b2i]
      cases hh : hasL (dc c) id
      · rw [dlL_none hh]; rfl
      · rfl
    · show K.b.norm (b2i (hasL (dc c) id)) = b2i (!i2b (K.b.norm (b2i (!hasL (dc c) id))) && i2b (K.b.norm (b2i (hasL (dc c) id))))
      simp only [norm_b2i, i2b_b2i]
      cases hasL (dc c) id <;> rfl

set_option maxHeartbeats 4000000 in
theorem lo51 : ItemOK Try.prog G0 51 [true,true,true,false,true,false] le51 := by
  refine cS0ok.loopP mixed mu51 rfl ?_ ev_L51 _ rfl _ rfl ?_
  · exact ⟨_, _, _, Try.func51, rfl, rfl⟩
  intro n xs hf hp hmu
  obtain ⟨l, hl, hS, hF⟩ := self_P le51 mu51 n cS0.l (by decide)
  show ob_L51.tt (Tabs.F (enL le51 mu51 n :: cS0.l)) _ = true ∧ outsP le51.ent.fn _ (Tabs.F (enL le51 mu51 n :: cS0.l)) _ _ _ _
  rw [hl]
  have F9051_0 : ∀ xs, l.F 9051 0 xs = le51.ent.fn 0 xs := hS.1 0 rfl
  have F9051_1 : ∀ xs, l.F 9051 1 xs = le51.ent.fn 1 xs := hS.1 1 rfl
  have P9051 := hS.2
  replace P9051 : ∀ xs, (i2b (K.b.norm (l.F 9051 1000000 xs)) = true) = _ := P9051
  obtain ⟨t, now, c, o, lf, i, rfl⟩ : ∃ a0 a1 a2 a3 a4 a5, xs = [a0, a1, a2, a3, a4, a5] := by
    have := fits_length hf
    match xs, this with
    | [a0, a1, a2, a3, a4, a5], _ => exact ⟨_, _, _, _, _, _, rfl⟩
  obtain ⟨h0, h1, h2, h3, h4, h5, _⟩ := hf
  simp only [norm_i, norm_x] at h0 h1 h5
  obtain ⟨⟨p1, p2⟩, p3, p4, p5, p6⟩ := hp
  simp only [ewA, ewL, preC, binI, dvI, shI, cmpB, env, bi, List.headD, List.tail, List.map, Nat.reduceAdd] at p1 p2 p3 p4 p5 p6 hmu
  unfold capR at p2
  have e1 : le51.ent.fn = fnL51 := rfl
  have e2 : le51.ent.pre = preL51 := rfl
  by_cases hlt : i < ((dc c).length : Int)
  · obtain ⟨r, hr, hrf, hrm, hrd⟩ := row_at p1 p5 hlt
    match r, hrf with
    | [a, b], hrf =>
      obtain ⟨k0, k1, _⟩ := hrf
      simp only [norm_i] at k0 k1
      by_cases hbt : b ≤ t
      · refine ⟨?_, ?_, ?_, trivial⟩
        · simp (disch := omega) only [ob_L51, ewA, ewL, preC, binI, dvI, shI, cmpB, env, bi, List.headD, List.tail, List.map, Nat.reduceAdd, ewB, ewM, if_true, if_false, implies_true, forall_const, ne_eq, reduceCtorEq, Int.reduceEq, Int.reduceLT, Int.reduceLE, Int.reduceToNat, Int.reduceAdd, Int.reduceSub, Int.reduceMul, Int.reduceNeg, Int.reduceBEq, Nat.reduceLT, Nat.reduceEqDiff, F9051_0, F9051_1, P9051, h0, h1, h5, hlt, hr, k0, k1, hbt, e2]
          have hl : ((dc o ++ [[a, b]]).length : Int) = ((dc o).length : Int) + 1 := by simp
          exact ⟨⟨p5, p5, p5, by omega⟩, ⟨⟨p1, by show ((dc c).length : Int) < capR; unfold capR; omega⟩, by show ((dc (cd (dc o ++ [[a, b]]))).length : Int) ≤ i + 1; rw [dc_cd]; omega, by show ((dc lf).length : Int) ≤ i + 1; omega, by show 0 ≤ i + 1; omega, by show i + 1 ≤ ((dc c).length : Int); omega⟩, by simp only [mu51, ewA, ewL, preC, binI, dvI, shI, cmpB, env, bi, List.headD, List.tail, List.map, Nat.reduceAdd] at hmu ⊢; omega⟩
        all_goals simp (disch := omega) only [es_L51, ewA, ewL, preC, binI, dvI, shI, cmpB, env, bi, List.headD, List.tail, List.map, Nat.reduceAdd, ewB, ewM, if_true, if_false, implies_true, forall_const, ne_eq, reduceCtorEq, Int.reduceEq, Int.reduceLT, Int.reduceLE, Int.reduceToNat, Int.reduceAdd, Int.reduceSub, Int.reduceMul, Int.reduceNeg, Int.reduceBEq, Nat.reduceLT, Nat.reduceEqDiff, F9051_0, F9051_1, P9051, h0, h1, h5, hlt, hr, k0, k1, hbt, e1]
        · show appC (dueT t ((dc c).drop i.toNat)) o = appC (dueT t ((dc c).drop (i + 1).toNat)) (cd (dc o ++ [[a, b]]))
          have : dueT t ([a, b] :: (dc c).drop (i + 1).toNat) = [a, b] :: dueT t ((dc c).drop (i + 1).toNat) := by unfold dueT; simp [dlR, hbt]
          rw [hrd, this]; rfl
        · show appC (leftT t ((dc c).drop i.toNat)) lf = appC (leftT t ((dc c).drop (i + 1).toNat)) lf
          have : leftT t ([a, b] :: (dc c).drop (i + 1).toNat) = leftT t ((dc c).drop (i + 1).toNat) := by unfold leftT; simp [dlR, hbt]
          rw [hrd, this]
      · refine ⟨?_, ?_, ?_, trivial⟩
        · simp (disch := omega) only [ob_L51, ewA, ewL, preC, binI, dvI, shI, cmpB, env, bi, List.headD, List.tail, List.map, Nat.reduceAdd, ewB, ewM, if_true, if_false, implies_true, forall_const, ne_eq, reduceCtorEq, Int.reduceEq, Int.reduceLT, Int.reduceLE, Int.reduceToNat, Int.reduceAdd, Int.reduceSub, Int.reduceMul, Int.reduceNeg, Int.reduceBEq, Nat.reduceLT, Nat.reduceEqDiff, F9051_0, F9051_1, P9051, h0, h1, h5, hlt, hr, k0, k1, hbt, e2]
          have hl : ((dc lf ++ [[a, b]]).length : Int) = ((dc lf).length : Int) + 1 := by simp
          exact ⟨⟨p5, p5, p5, by omega⟩, ⟨⟨p1, by show ((dc c).length : Int) < capR; unfold capR; omega⟩, by show ((dc o).length : Int) ≤ i + 1; omega, by show ((dc (cd (dc lf ++ [[a, b]]))).length : Int) ≤ i + 1; rw [dc_cd]; omega, by show 0 ≤ i + 1; omega, by show i + 1 ≤ ((dc c).length : Int); omega⟩, by simp only [mu51, ewA, ewL, preC, binI, dvI, shI, cmpB, env, bi, List.headD, List.tail, List.map, Nat.reduceAdd] at hmu ⊢; omega⟩
        all_goals simp (disch := omega) only [es_L51, ewA, ewL, preC, binI, dvI, shI, cmpB, env, bi, List.headD, List.tail, List.map, Nat.reduceAdd, ewB, ewM, if_true, if_false, implies_true, forall_const, ne_eq, reduceCtorEq, Int.reduceEq, Int.reduceLT, Int.reduceLE, Int.reduceToNat, Int.reduceAdd, Int.reduceSub, Int.reduceMul, Int.reduceNeg, Int.reduceBEq, Nat.reduceLT, Nat.reduceEqDiff, F9051_0, F9051_1, P9051, h0, h1, h5, hlt, hr, k0, k1, hbt, e1]
        · show appC (dueT t ((dc c).drop i.toNat)) o = appC (dueT t ((dc c).drop (i + 1).toNat)) o
          have : dueT t ([a, b] :: (dc c).drop (i + 1).toNat) = dueT t ((dc c).drop (i + 1).toNat) := by unfold dueT; simp [dlR, hbt]
          rw [hrd, this]
        · show appC (leftT t ((dc c).drop i.toNat)) lf = appC (leftT t ((dc c).drop (i + 1).toNat)) (cd (dc lf ++ [[a, b]]))
          have : leftT t ([a, b] :: (dc c).drop (i + 1).toNat) = [a, b] :: leftT t ((dc c).drop (i + 1).toNat) := by unfold leftT; simp [dlR, show t < b by omega]
          rw [hrd, this]; rfl
  · have hd : (dc c).drop i.toNat = [] := List.drop_of_length_le (by omega)
    refine ⟨?_, ?_, ?_, trivial⟩
    · simp (disch := omega) only [ob_L51, ewA, ewL, preC, binI, dvI, shI, cmpB, env, bi, List.headD, List.tail, List.map, Nat.reduceAdd, ewB, ewM, if_true, if_false, implies_true, forall_const, ne_eq, reduceCtorEq, Int.reduceEq, Int.reduceLT, Int.reduceLE, Int.reduceToNat, Int.reduceAdd, Int.reduceSub, Int.reduceMul, Int.reduceNeg, Int.reduceBEq, Nat.reduceLT, Nat.reduceEqDiff, F9051_0, F9051_1, P9051, h0, h1, h5, hlt]
    all_goals (simp (disch := omega) only [es_L51, ewA, ewL, preC, binI, dvI, shI, cmpB, env, bi, List.headD, List.tail, List.map, Nat.reduceAdd, ewB, ewM, if_true, if_false, implies_true, forall_const, ne_eq, reduceCtorEq, Int.reduceEq, Int.reduceLT, Int.reduceLE, Int.reduceToNat, Int.reduceAdd, Int.reduceSub, Int.reduceMul, Int.reduceNeg, Int.reduceBEq, Nat.reduceLT, Nat.reduceEqDiff, F9051_0, F9051_1, P9051, h0, h1, h5, hlt, e1, fnL51, hd]; rfl)

theorem cS2ok : cS2.OK Try.prog G0 := (Ctx.OK.nil.addF ok61 rfl).addF ok59 rfl

theorem min_cons (a b x y : Int) (l : RL) : minF ([a, b] :: l) [x, y] = minF l [if ltT [a, b] [x, y] = true then a else x, if ltT [a, b] [x, y] = true then b else y] := by
  show minF l (if ltT [a, b] [x, y] = true then [a, b] else [x, y]) = _
  split <;> rfl

set_option maxHeartbeats 4000000 in
theorem loSi : ItemOK Try.prog G0 56 pSi leSi := by
  refine cS2ok.loopP mixed muSi rfl ?_ ev_LSi _ rfl _ rfl ?_
  · exact ⟨_, _, _, Try.func56, rfl, rfl⟩
  intro n xs hf hp hmu
  obtain ⟨l, hl, hS, hF⟩ := self_P leSi muSi n cS2.l (by decide)
  show ob_LSi.tt (Tabs.F (enL leSi muSi n :: cS2.l)) _ = true ∧ outsP leSi.ent.fn _ (Tabs.F (enL leSi muSi n :: cS2.l)) _ _ _ _
  rw [hl]
  have F61_0 : ∀ xs, l.F 61 0 xs = e61.fn 0 xs := (hF e61 (by rfl) (by decide) (by decide)).1 0 rfl
  have P61 := (hF e61 (by rfl) (by decide) (by decide)).2
  replace P61 : ∀ xs, (i2b (K.b.norm (l.F 61 1000000 xs)) = true) = _ := P61
  have F9156_0 : ∀ xs, l.F 9156 0 xs = leSi.ent.fn 0 xs := hS.1 0 rfl
  have F9156_1 : ∀ xs, l.F 9156 1 xs = leSi.ent.fn 1 xs := hS.1 1 rfl
  have P9156 := hS.2
  replace P9156 : ∀ xs, (i2b (K.b.norm (l.F 9156 1000000 xs)) = true) = _ := P9156
  match xs, hf with
  | [c, x, y, i], hf =>
    obtain ⟨h0, h1, h2, h3, _⟩ := hf
    simp only [norm_i, norm_x] at h1 h2 h3
    obtain ⟨⟨p1, p2⟩, p3, p4⟩ := hp
    simp only [ewA, ewL, preC, binI, dvI, shI, cmpB, env, bi, List.headD, List.tail, List.map, Nat.reduceAdd] at p1 p2 p3 p4 hmu
    unfold capR at p2
    have e1 : leSi.ent.fn = fnSi := rfl
    have e2 : leSi.ent.pre = preSi := rfl
    by_cases hlt : i < ((dc c).length : Int)
    · obtain ⟨r, hr, hrf, hrm, hrd⟩ := row_at p1 p3 hlt
      match r, hrf with
      | [a, b], hrf =>
        obtain ⟨k0, k1, _⟩ := hrf
        simp only [norm_i] at k0 k1
        refine ⟨?_, ?_, ?_, trivial⟩
        · simp (disch := omega) only [ob_LSi, ewA, ewL, preC, binI, dvI, shI, cmpB, env, bi, List.headD, List.tail, List.map, Nat.reduceAdd, ewB, ewM, if_true, if_false, implies_true, forall_const, ne_eq, reduceCtorEq, Int.reduceEq, Int.reduceLT, Int.reduceLE, Int.reduceToNat, Int.reduceAdd, Int.reduceSub, Int.reduceMul, Int.reduceNeg, Int.reduceBEq, Nat.reduceLT, Nat.reduceEqDiff, F61_0, P61, F9156_0, F9156_1, P9156, h1, h2, h3, hlt, hr, k0, k1, e61, e2]
          have hnx : ∀ x' y', preSi [c, x', y', i + 1] ∧ muSi [c, x', y', i + 1] < n := fun x' y' => ⟨⟨⟨p1, by show ((dc c).length : Int) < capR; unfold capR; omega⟩, by show 0 ≤ i + 1; omega, by show i + 1 ≤ ((dc c).length : Int); omega⟩, by simp only [muSi, ewA, ewL, preC, binI, dvI, shI, cmpB, env, bi, List.headD, List.tail, List.map, Nat.reduceAdd] at hmu ⊢; omega⟩
          exact ⟨⟨⟨p3, p3⟩, fun _ => p3⟩, hnx _ _⟩
        all_goals simp (disch := omega) only [es_LSi, ewA, ewL, preC, binI, dvI, shI, cmpB, env, bi, List.headD, List.tail, List.map, Nat.reduceAdd, ewB, ewM, if_true, if_false, implies_true, forall_const, ne_eq, reduceCtorEq, Int.reduceEq, Int.reduceLT, Int.reduceLE, Int.reduceToNat, Int.reduceAdd, Int.reduceSub, Int.reduceMul, Int.reduceNeg, Int.reduceBEq, Nat.reduceLT, Nat.reduceEqDiff, F61_0, P61, F9156_0, F9156_1, P9156, h1, h2, h3, hlt, hr, k0, k1, e61, e1]
        · show IntKind.i64.wrap (idR (minF ((dc c).drop i.toNat) [x, y])) = IntKind.i64.wrap (idR (minF ((dc c).drop (i + 1).toNat) [if ltT [a, b] [x, y] = true then a else x, if ltT [a, b] [x, y] = true then b else y]))
          rw [hrd, min_cons]
        · show IntKind.i64.wrap (dlR (minF ((dc c).drop i.toNat) [x, y])) = IntKind.i64.wrap (dlR (minF ((dc c).drop (i + 1).toNat) [if ltT [a, b] [x, y] = true then a else x, if ltT [a, b] [x, y] = true then b else y]))
          rw [hrd, min_cons]
    · have hd : (dc c).drop i.toNat = [] := List.drop_of_length_le (by omega)
      refine ⟨?_, ?_, ?_, trivial⟩
      · simp (disch := omega) only [ob_LSi, ewA, ewL, preC, binI, dvI, shI, cmpB, env, bi, List.headD, List.tail, List.map, Nat.reduceAdd, ewB, ewM, if_true, if_false, implies_true, forall_const, ne_eq, reduceCtorEq, Int.reduceEq, Int.reduceLT, Int.reduceLE, Int.reduceToNat, Int.reduceAdd, Int.reduceSub, Int.reduceMul, Int.reduceNeg, Int.reduceBEq, Nat.reduceLT, Nat.reduceEqDiff, F61_0, P61, F9156_0, F9156_1, P9156, h1, h2, h3, hlt]
      all_goals simp (disch := omega) only [es_LSi, ewA, ewL, preC, binI, dvI, shI, cmpB, env, bi, List.headD, List.tail, List.map, Nat.reduceAdd, ewB, ewM, if_true, if_false, implies_true, forall_const, ne_eq, reduceCtorEq, Int.reduceEq, Int.reduceLT, Int.reduceLE, Int.reduceToNat, Int.reduceAdd, Int.reduceSub, Int.reduceMul, Int.reduceNeg, Int.reduceBEq, Nat.reduceLT, Nat.reduceEqDiff, F61_0, P61, F9156_0, F9156_1, P9156, h1, h2, h3, hlt, e1, fnSi, hd]
      · exact h1
      · exact h2

set_option maxHeartbeats 4000000 in
theorem loSo : ItemOK Try.prog G0 56 [true,true,false,false] leSo := by
  refine (cS2ok.addL loSi rfl).loopP mixed muSo rfl ?_ ev_LSo _ rfl _ rfl ?_
  · exact ⟨_, _, _, Try.func56, rfl, rfl⟩
  intro n xs hf hp hmu
  obtain ⟨l, hl, hS, hF⟩ := self_P leSo muSo n cS3.l (by decide)
  show ob_LSo.tt (Tabs.F (enL leSo muSo n :: cS3.l)) _ = true ∧ outsP leSo.ent.fn _ (Tabs.F (enL leSo muSo n :: cS3.l)) _ _ _ _
  rw [hl]
  have F59_0 : ∀ xs, l.F 59 0 xs = e59.fn 0 xs := (hF e59 (by rfl) (by decide) (by decide)).1 0 rfl
  have P59 := (hF e59 (by rfl) (by decide) (by decide)).2
  replace P59 : ∀ xs, (i2b (K.b.norm (l.F 59 1000000 xs)) = true) = _ := P59
  have F9056_0 : ∀ xs, l.F 9056 0 xs = leSo.ent.fn 0 xs := hS.1 0 rfl
  have P9056 := hS.2
  replace P9056 : ∀ xs, (i2b (K.b.norm (l.F 9056 1000000 xs)) = true) = _ := P9056
  have F9156_0 : ∀ xs, l.F 9156 0 xs = leSi.ent.fn 0 xs := (hF leSi.ent (by rfl) (by decide) (by decide)).1 0 rfl
  have F9156_1 : ∀ xs, l.F 9156 1 xs = leSi.ent.fn 1 xs := (hF leSi.ent (by rfl) (by decide) (by decide)).1 1 rfl
  have P9156 := (hF leSi.ent (by rfl) (by decide) (by decide)).2
  replace P9156 : ∀ xs, (i2b (K.b.norm (l.F 9156 1000000 xs)) = true) = _ := P9156
  obtain ⟨c, o, rfl⟩ := two_of (fits_length hf)
  obtain ⟨p1, p2, p3⟩ := hp
  simp only [ewA, ewL, preC, binI, dvI, shI, cmpB, env, bi, List.headD, List.tail, List.map, Nat.reduceAdd] at p1 p2 p3 hmu
  unfold capR at p3
  have e1 : leSo.ent.fn = fnSo := rfl
  have e2 : leSo.ent.pre = preSo := rfl
  cases hc : dc c with
  | nil =>
    refine ⟨?_, ?_, trivial⟩
    · simp (disch := omega) only [ob_LSo, ewA, ewL, preC, binI, dvI, shI, cmpB, env, bi, List.headD, List.tail, List.map, Nat.reduceAdd, ewB, ewM, if_true, if_false, implies_true, forall_const, ne_eq, reduceCtorEq, Int.reduceEq, Int.reduceLT, Int.reduceLE, Int.reduceToNat, Int.reduceAdd, Int.reduceSub, Int.reduceMul, Int.reduceNeg, Int.reduceBEq, Nat.reduceLT, Nat.reduceEqDiff, F59_0, P59, F9056_0, P9056, F9156_0, F9156_1, P9156, hc, List.length_nil]
      exact ⟨⟨fun h => absurd h (by decide), fun h => absurd h (by decide)⟩, fun h => ⟨fun h => h, fun h => h⟩⟩
    · simp (disch := omega) only [es_LSo, ewA, ewL, preC, binI, dvI, shI, cmpB, env, bi, List.headD, List.tail, List.map, Nat.reduceAdd, ewB, ewM, if_true, if_false, implies_true, forall_const, ne_eq, reduceCtorEq, Int.reduceEq, Int.reduceLT, Int.reduceLE, Int.reduceToNat, Int.reduceAdd, Int.reduceSub, Int.reduceMul, Int.reduceNeg, Int.reduceBEq, Nat.reduceLT, Nat.reduceEqDiff, F59_0, P59, F9056_0, P9056, F9156_0, F9156_1, P9156, hc, List.length_nil, e1]
      rw [if_pos (by decide)]
      show appC (sortT (dc c)) o = o
      rw [hc]; rfl
  | cons r l =>
    match r, p1 r (by rw [hc]; exact List.mem_cons_self ..) with
    | [a, b], hrf =>
      obtain ⟨k0, k1, _⟩ := hrf
      simp only [norm_i] at k0 k1
      have hs := sort_step p2 p1 (r := [a, b]) (by rw [hc]; exact List.mem_cons_self ..)
      obtain ⟨i', d', em, wi, wd⟩ := row_eq (p1 _ hs.2)
      have f0 : leSi.ent.fn 0 [c, a, b, 0] = i' := by show idR (minF (dc c) [a, b]) = i'; rw [em]; rfl
      have f1 : leSi.ent.fn 1 [c, a, b, 0] = d' := by show dlR (minF (dc c) [a, b]) = d'; rw [em]; rfl
      have hi' : idR (minF (dc c) [a, b]) = i' := f0
      rw [hi'] at hs
      have hlen : (dc c).length = l.length + 1 := by rw [hc]; rfl
      have hdl : (delT i' (dc c)).length + 1 = (dc c).length := by
        have h1 := (sort_perm (dc c)).length_eq
        have h2 := (sort_perm (delT i' (dc c))).length_eq
        rw [hs.1, List.length_cons, h2] at h1
        exact h1
      have g1 : dc (e59.fn 0 [c, i']) = delT i' (dc c) := dc_cd _
      have g2 : dc (cd (dc o ++ [[i', d']])) = dc o ++ [[i', d']] := dc_cd _
      have hol : ((dc o ++ [[i', d']]).length : Int) = ((dc o).length : Int) + 1 := by simp
      refine ⟨?_, ?_, trivial⟩
      · simp (disch := omega) only [ob_LSo, ewA, ewL, preC, binI, dvI, shI, cmpB, env, bi, List.headD, List.tail, List.map, Nat.reduceAdd, ewB, ewM, if_true, if_false, implies_true, forall_const, ne_eq, reduceCtorEq, Int.reduceEq, Int.reduceLT, Int.reduceLE, Int.reduceToNat, Int.reduceAdd, Int.reduceSub, Int.reduceMul, Int.reduceNeg, Int.reduceBEq, Nat.reduceLT, Nat.reduceEqDiff, F59_0, P59, F9056_0, P9056, F9156_0, F9156_1, P9156, hc, List.length_cons, k0, k1, f0, f1, wi, wd, e2]
        exact ⟨⟨fun h => ⟨h, ⟨⟨p1, by show ((dc c).length : Int) < capR; unfold capR; omega⟩, by show (0 : Int) ≤ 0; omega, by show (0 : Int) ≤ ((dc c).length : Int); omega⟩, by omega, ⟨p1, by show ((dc c).length : Int) < capR; unfold capR; omega⟩⟩, fun h => ⟨⟨by show rowsOK tmK (dc (e59.fn 0 [c, i'])); rw [g1]; exact fun x hx => p1 x (mem_del.1 hx).1, by show disT (dc (e59.fn 0 [c, i'])); rw [g1]; exact dis_del p2 _, by show ((dc (e59.fn 0 [c, i'])).length : Int) + ((dc (cd (dc o ++ [[i', d']]))).length : Int) < capR; rw [g1, g2]; unfold capR; omega⟩, by simp only [muSo, ewA, ewL, preC, binI, dvI, shI, cmpB, env, bi, List.headD, List.tail, List.map, Nat.reduceAdd, g1] at hmu ⊢; omega⟩⟩, fun h => ⟨fun h => h, fun h => h⟩⟩
      · simp (disch := omega) only [es_LSo, ewA, ewL, preC, binI, dvI, shI, cmpB, env, bi, List.headD, List.tail, List.map, Nat.reduceAdd, ewB, ewM, if_true, if_false, implies_true, forall_const, ne_eq, reduceCtorEq, Int.reduceEq, Int.reduceLT, Int.reduceLE, Int.reduceToNat, Int.reduceAdd, Int.reduceSub, Int.reduceMul, Int.reduceNeg, Int.reduceBEq, Nat.reduceLT, Nat.reduceEqDiff, F59_0, P59, F9056_0, P9056, F9156_0, F9156_1, P9156, hc, List.length_cons, k0, k1, f0, f1, wi, wd, e1]
        rw [if_neg (by omega)]
        show appC (sortT (dc c)) o = appC (sortT (dc (cd (delT i' (dc c))))) (cd (dc o ++ [[i', d']]))
        rw [hs.1, dc_cd, em]; rfl

theorem ok56 : EntryOK Try.prog G0 e56 := ((cS2ok.addL loSo rfl).addL loSi rfl).entryP mixed ev_56 _ rfl _ rfl fun xs hf hp => by
  obtain ⟨l, hl, hF⟩ := ctx_P (l0 := cS4.l)
  show ob_56.tt cS4.l.F _ = true ∧ outsP e56.fn _ cS4.l.F _ _ _ _
  rw [hl]
  have F9056_0 : ∀ xs, l.F 9056 0 xs = leSo.ent.fn 0 xs := (hF leSo.ent (by rfl) (by decide)).1 0 rfl
  have P9056 := (hF leSo.ent (by rfl) (by decide)).2
  replace P9056 : ∀ xs, (i2b (K.b.norm (l.F 9056 1000000 xs)) = true) = _ := P9056
  match xs, hf with
  | [c], hf =>
    obtain ⟨⟨p1, p2⟩, p3⟩ := hp
    simp only [ewA, ewL, preC, binI, dvI, shI, cmpB, env, bi, List.headD, List.tail, List.map, Nat.reduceAdd] at p1 p2 p3
    refine ⟨?_, ?_, trivial⟩
    · simp (disch := omega) only [ob_56, ewA, ewL, preC, binI, dvI, shI, cmpB, env, bi, List.headD, List.tail, List.map, Nat.reduceAdd, ewB, ewM, if_true, if_false, implies_true, forall_const, ne_eq, reduceCtorEq, Int.reduceEq, Int.reduceLT, Int.reduceLE, Int.reduceToNat, Int.reduceAdd, Int.reduceSub, Int.reduceMul, Int.reduceNeg, Int.reduceBEq, Nat.reduceLT, Nat.reduceEqDiff, F9056_0, P9056]
      exact ⟨p1, p3, by show ((dc c).length : Int) + ((dc (cd [])).length : Int) < capR; rw [dc_cd]; exact p2⟩
    · simp (disch := omega) only [es_56, e56, ewA, ewL, preC, binI, dvI, shI, cmpB, env, bi, List.headD, List.tail, List.map, Nat.reduceAdd, ewB, ewM, if_true, if_false, implies_true, forall_const, ne_eq, reduceCtorEq, Int.reduceEq, Int.reduceLT, Int.reduceLE, Int.reduceToNat, Int.reduceAdd, Int.reduceSub, Int.reduceMul, Int.reduceNeg, Int.reduceBEq, Nat.reduceLT, Nat.reduceEqDiff, F9056_0, P9056]
      show cd (sortT (dc c)) = appC (sortT (dc c)) (cd [])
      rw [appC_cd]; rfl

theorem cS5ok : cS5.OK Try.prog G0 := ((cS2ok.addF ok56 rfl).addL lo51 rfl).sub rfl (by simp [cS5, cS2]) (by simp [cS5])

theorem ok51 : EntryOK Try.prog G0 e51 := cS5ok.entryP mixed ev_51 _ rfl _ rfl fun xs hf hp => by
  obtain ⟨l, hl, hF⟩ := ctx_P (l0 := cS5.l)
  show ob_51.tt cS5.l.F _ = true ∧ outsP e51.fn _ cS5.l.F _ _ _ _
  rw [hl]
  have F56_0 : ∀ xs, l.F 56 0 xs = e56.fn 0 xs := (hF e56 (by rfl) (by decide)).1 0 rfl
  have P56 := (hF e56 (by rfl) (by decide)).2
  replace P56 : ∀ xs, (i2b (K.b.norm (l.F 56 1000000 xs)) = true) = _ := P56
  have F9051_0 : ∀ xs, l.F 9051 0 xs = le51.ent.fn 0 xs := (hF le51.ent (by rfl) (by decide)).1 0 rfl
  have F9051_1 : ∀ xs, l.F 9051 1 xs = le51.ent.fn 1 xs := (hF le51.ent (by rfl) (by decide)).1 1 rfl
  have P9051 := (hF le51.ent (by rfl) (by decide)).2
  replace P9051 : ∀ xs, (i2b (K.b.norm (l.F 9051 1000000 xs)) = true) = _ := P9051
  match xs, hf with
  | [now, c, t], hf =>
    obtain ⟨h0, h1, h2, _⟩ := hf
    simp only [norm_i, norm_x] at h0 h2
    obtain ⟨⟨p1, p2⟩, p3, p4, p5⟩ := hp
    simp only [ewA, ewL, preC, binI, dvI, shI, cmpB, env, bi, List.headD, List.tail, List.map, Nat.reduceAdd] at p1 p2 p3 p4 p5
    cases hb : toB now t
    · have hx : ¬ (now ≤ t ∧ t ≤ 1099511627776) := fun h => by rw [toB_ok h.1 h.2] at hb; cases hb
      refine ⟨?_, ?_, ?_, ?_, ?_, trivial⟩
      · simp (disch := omega) only [ob_51, ewA, ewL, preC, binI, dvI, shI, cmpB, env, bi, List.headD, List.tail, List.map, Nat.reduceAdd, ewB, ewM, if_true, if_false, implies_true, forall_const, ne_eq, reduceCtorEq, Int.reduceEq, Int.reduceLT, Int.reduceLE, Int.reduceToNat, Int.reduceAdd, Int.reduceSub, Int.reduceMul, Int.reduceNeg, Int.reduceBEq, Nat.reduceLT, Nat.reduceEqDiff, F56_0, P56, F9051_0, F9051_1, P9051, h0, h2]
        exact ⟨fun h => absurd h hx, fun h => h⟩
      all_goals simp (disch := omega) only [es_51, e51, fn51, ewA, ewL, preC, binI, dvI, shI, cmpB, env, bi, List.headD, List.tail, List.map, Nat.reduceAdd, ewB, ewM, if_true, if_false, implies_true, forall_const, ne_eq, reduceCtorEq, Int.reduceEq, Int.reduceLT, Int.reduceLE, Int.reduceToNat, Int.reduceAdd, Int.reduceSub, Int.reduceMul, Int.reduceNeg, Int.reduceBEq, Nat.reduceLT, Nat.reduceEqDiff, F56_0, P56, F9051_0, F9051_1, P9051, h0, h2, hb]
      · rw [if_pos (by omega)]
      · rw [if_pos (by omega)]
      · rw [if_pos (by omega)]
      · rw [if_pos (by omega)]
    · have hb' := hb
      simp only [toB, Bool.and_eq_true, Bool.not_eq_true', decide_eq_false_iff_not] at hb'
      have f0 : le51.ent.fn 0 [t, now, c, cd [], cd [], 0] = cd (dueT t (dc c)) := by
        show appC (dueT t (dc c)) (cd []) = _
        rw [appC_cd]; rfl
      have f1 : le51.ent.fn 1 [t, now, c, cd [], cd [], 0] = cd (leftT t (dc c)) := by
        show appC (leftT t (dc c)) (cd []) = _
        rw [appC_cd]; rfl
      have y56 : e56.pre [le51.ent.fn 0 [t, now, c, cd [], cd [], 0]] := by
        rw [f0]
        show (rowsOK tmK (dc (cd (dueT t (dc c)))) ∧ ((dc (cd (dueT t (dc c)))).length : Int) < capR) ∧ disT (dc (cd (dueT t (dc c))))
        rw [dc_cd]
        have : (dueT t (dc c)).length ≤ (dc c).length := List.length_filter_le _ _
        exact ⟨⟨fun r hr => p1 r (List.mem_filter.1 hr).1, by omega⟩, List.Pairwise.filter _ p3⟩
      refine ⟨?_, ?_, ?_, ?_, ?_, trivial⟩
      · simp (disch := omega) only [ob_51, ewA, ewL, preC, binI, dvI, shI, cmpB, env, bi, List.headD, List.tail, List.map, Nat.reduceAdd, ewB, ewM, if_true, if_false, implies_true, forall_const, ne_eq, reduceCtorEq, Int.reduceEq, Int.reduceLT, Int.reduceLE, Int.reduceToNat, Int.reduceAdd, Int.reduceSub, Int.reduceMul, Int.reduceNeg, Int.reduceBEq, Nat.reduceLT, Nat.reduceEqDiff, F56_0, P56, F9051_0, F9051_1, P9051, h0, h2]
        exact ⟨fun _ => ⟨⟨⟨p1, p2⟩, by show ((dc (cd [])).length : Int) ≤ 0; rw [dc_cd]; exact Int.le_refl _, by show ((dc (cd [])).length : Int) ≤ 0; rw [dc_cd]; exact Int.le_refl _, by show (0 : Int) ≤ 0; omega, by show (0 : Int) ≤ ((dc c).length : Int); omega⟩, y56⟩, fun h => h⟩
      all_goals simp (disch := omega) only [es_51, e51, fn51, ewA, ewL, preC, binI, dvI, shI, cmpB, env, bi, List.headD, List.tail, List.map, Nat.reduceAdd, ewB, ewM, if_true, if_false, implies_true, forall_const, ne_eq, reduceCtorEq, Int.reduceEq, Int.reduceLT, Int.reduceLE, Int.reduceToNat, Int.reduceAdd, Int.reduceSub, Int.reduceMul, Int.reduceNeg, Int.reduceBEq, Nat.reduceLT, Nat.reduceEqDiff, F56_0, P56, F9051_0, F9051_1, P9051, h0, h2, hb]
      · rw [if_neg (by omega)]
      · rw [if_neg (by omega), f1]
      · rw [if_neg (by omega), f0]
        show _ = cd (sortT (dc (cd (dueT t (dc c)))))
        rw [dc_cd]
      · rw [if_neg (by omega)]

theorem cS6ok : cS6.OK Try.prog G0 := ((cS2ok.addF ok56 rfl).addF ok51 rfl).sub rfl (by simp [cS6, cS2]) (by simp [cS6])

theorem ok50 : EntryOK Try.prog G0 e50 := cS6ok.entryP mixed ev_50 _ rfl _ rfl fun xs hf hp => by
  obtain ⟨l, hl, hF⟩ := ctx_P (l0 := cS6.l)
  show ob_50.tt cS6.l.F _ = true ∧ outsP e50.fn _ cS6.l.F _ _ _ _
  rw [hl]
  have F51_0 : ∀ xs, l.F 51 0 xs = e51.fn 0 xs := (hF e51 (by rfl) (by decide)).1 0 rfl
  have F51_1 : ∀ xs, l.F 51 1 xs = e51.fn 1 xs := (hF e51 (by rfl) (by decide)).1 1 rfl
  have F51_2 : ∀ xs, l.F 51 2 xs = e51.fn 2 xs := (hF e51 (by rfl) (by decide)).1 2 rfl
  have P51 := (hF e51 (by rfl) (by decide)).2
  replace P51 : ∀ xs, (i2b (K.b.norm (l.F 51 1000000 xs)) = true) = _ := P51
  obtain ⟨now, c, rfl⟩ := two_of (fits_length hf)
  obtain ⟨h0, h1, _⟩ := hf
  simp only [norm_i, norm_x] at h0
  obtain ⟨p1, p2, p3, p4⟩ := hp
  simp only [ewA, ewL, preC, binI, dvI, shI, cmpB, env, bi, List.headD, List.tail, List.map, Nat.reduceAdd] at p1 p2 p3 p4
  by_cases hm : now = 1099511627776
  · refine ⟨?_, ?_, ?_, ?_, trivial⟩
    · simp (disch := omega) only [ob_50, ewA, ewL, preC, binI, dvI, shI, cmpB, env, bi, List.headD, List.tail, List.map, Nat.reduceAdd, ewB, ewM, if_true, if_false, implies_true, forall_const, ne_eq, reduceCtorEq, Int.reduceEq, Int.reduceLT, Int.reduceLE, Int.reduceToNat, Int.reduceAdd, Int.reduceSub, Int.reduceMul, Int.reduceNeg, Int.reduceBEq, Nat.reduceLT, Nat.reduceEqDiff, F51_0, F51_1, F51_2, P51, h0, hm]
    all_goals (simp (disch := omega) only [es_50, e50, fn50, ewA, ewL, preC, binI, dvI, shI, cmpB, env, bi, List.headD, List.tail, List.map, Nat.reduceAdd, ewB, ewM, if_true, if_false, implies_true, forall_const, ne_eq, reduceCtorEq, Int.reduceEq, Int.reduceLT, Int.reduceLE, Int.reduceToNat, Int.reduceAdd, Int.reduceSub, Int.reduceMul, Int.reduceNeg, Int.reduceBEq, Nat.reduceLT, Nat.reduceEqDiff, F51_0, F51_1, F51_2, P51, h0, hm])
  · refine ⟨?_, ?_, ?_, ?_, trivial⟩
    · simp (disch := omega) only [ob_50, ewA, ewL, preC, binI, dvI, shI, cmpB, env, bi, List.headD, List.tail, List.map, Nat.reduceAdd, ewB, ewM, if_true, if_false, implies_true, forall_const, ne_eq, reduceCtorEq, Int.reduceEq, Int.reduceLT, Int.reduceLE, Int.reduceToNat, Int.reduceAdd, Int.reduceSub, Int.reduceMul, Int.reduceNeg, Int.reduceBEq, Nat.reduceLT, Nat.reduceEqDiff, F51_0, F51_1, F51_2, P51, h0, hm]
      exact ⟨p1, p2, p3, p4⟩
    all_goals simp (disch := omega) only [es_50, e50, fn50, ewA, ewL, preC, binI, dvI, shI, cmpB, env, bi, List.headD, List.tail, List.map, Nat.reduceAdd, ewB, ewM, if_true, if_false, implies_true, forall_const, ne_eq, reduceCtorEq, Int.reduceEq, Int.reduceLT, Int.reduceLE, Int.reduceToNat, Int.reduceAdd, Int.reduceSub, Int.reduceMul, Int.reduceNeg, Int.reduceBEq, Nat.reduceLT, Nat.reduceEqDiff, F51_0, F51_1, F51_2, P51, h0, hm]
    · rfl
    · rfl
    · rfl

theorem del_len : ∀ (l : RL) (i : Int), (delT i l).length = l.length ↔ hasL l i = false
  | [], i => by simp [delT, hasL]
  | r :: l, i => by
    have ih := del_len l i
    rw [hasL_cons]
    have hle : (delT i l).length ≤ l.length := List.length_filter_le _ _
    by_cases h : idR r = i
    · have e : delT i (r :: l) = delT i l := by unfold delT; simp [h]
      rw [e, h]; simp; omega
    · have e : delT i (r :: l) = r :: delT i l := by unfold delT; simp [h]
      have y : (idR r == i) = false := by simpa using h
      rw [e, y, Bool.false_or, ← ih]; simp
theorem rightB_bad' {i : Int} (h : ¬ (0 ≤ i ∧ i ≤ 4095)) : rightB i = false := by
  rw [← Bool.not_eq_true]
  intro e
  simp only [rightB, Bool.and_eq_true, decide_eq_true_eq] at e
  omega
theorem arm_iff {now i d : Int} (hn : 0 ≤ now) (hd : IntKind.i64.wrap d = d) : armB now i d = true ↔ ((0 ≤ i ∧ i ≤ 4095) ∧ now < d) ∧ IntKind.i64.wrap (d - now) ≤ 2147483648 := by
  simp only [armB, rightB, Bool.and_eq_true, decide_eq_true_eq, Bool.not_eq_true', decide_eq_false_iff_not]
  have := i64r hd
  rw [IntKind.wrap_i64]
  omega

theorem ok48 : EntryOK Try.prog G0 e48 := cS6ok.entryP mixed ev_48 _ rfl _ rfl fun xs hf hp => by
  obtain ⟨l, hl, hF⟩ := ctx_P (l0 := cS6.l)
  show ob_48.tt cS6.l.F _ = true ∧ outsP e48.fn _ cS6.l.F _ _ _ _
  rw [hl]
  have F56_0 : ∀ xs, l.F 56 0 xs = e56.fn 0 xs := (hF e56 (by rfl) (by decide)).1 0 rfl
  have P56 := (hF e56 (by rfl) (by decide)).2
  replace P56 : ∀ xs, (i2b (K.b.norm (l.F 56 1000000 xs)) = true) = _ := P56
  obtain ⟨now, c, rfl⟩ := two_of (fits_length hf)
  obtain ⟨h0, h1, _⟩ := hf
  simp only [norm_i, norm_x] at h0
  obtain ⟨p1, p2, p3, p4⟩ := hp
  simp only [ewA, ewL, preC, binI, dvI, shI, cmpB, env, bi, List.headD, List.tail, List.map, Nat.reduceAdd] at p1 p2 p3 p4
  refine ⟨?_, ?_, trivial⟩
  · simp (disch := omega) only [ob_48, ewA, ewL, preC, binI, dvI, shI, cmpB, env, bi, List.headD, List.tail, List.map, Nat.reduceAdd, ewB, ewM, if_true, if_false, implies_true, forall_const, ne_eq, reduceCtorEq, Int.reduceEq, Int.reduceLT, Int.reduceLE, Int.reduceToNat, Int.reduceAdd, Int.reduceSub, Int.reduceMul, Int.reduceNeg, Int.reduceBEq, Nat.reduceLT, Nat.reduceEqDiff, F56_0, P56, h0]
    exact ⟨p1, p2⟩
  · simp (disch := omega) only [es_48, e48, ewA, ewL, preC, binI, dvI, shI, cmpB, env, bi, List.headD, List.tail, List.map, Nat.reduceAdd, ewB, ewM, if_true, if_false, implies_true, forall_const, ne_eq, reduceCtorEq, Int.reduceEq, Int.reduceLT, Int.reduceLE, Int.reduceToNat, Int.reduceAdd, Int.reduceSub, Int.reduceMul, Int.reduceNeg, Int.reduceBEq, Nat.reduceLT, Nat.reduceEqDiff, F56_0, P56, h0]
    rfl

theorem ok45 : EntryOK Try.prog G0 e45 := cS6ok.entryP mixed ev_45 _ rfl _ rfl fun xs hf hp => by
  obtain ⟨l, hl, hF⟩ := ctx_P (l0 := cS6.l)
  show ob_45.tt cS6.l.F _ = true ∧ outsP e45.fn _ cS6.l.F _ _ _ _
  rw [hl]
  have F56_0 : ∀ xs, l.F 56 0 xs = e56.fn 0 xs := (hF e56 (by rfl) (by decide)).1 0 rfl
  have P56 := (hF e56 (by rfl) (by decide)).2
  replace P56 : ∀ xs, (i2b (K.b.norm (l.F 56 1000000 xs)) = true) = _ := P56
  obtain ⟨now, c, rfl⟩ := two_of (fits_length hf)
  obtain ⟨h0, h1, _⟩ := hf
  simp only [norm_i, norm_x] at h0
  obtain ⟨p1, p2, p3, p4⟩ := hp
  simp only [ewA, ewL, preC, binI, dvI, shI, cmpB, env, bi, List.headD, List.tail, List.map, Nat.reduceAdd] at p1 p2 p3 p4
  have e : dc (e56.fn 0 [c]) = sortT (dc c) := dc_cd _
  have hl := (sort_perm (dc c)).length_eq
  have hc := p1.2
  unfold capR at hc
  have wl : IntKind.i64.wrap ((sortT (dc c)).length : Int) = ((sortT (dc c)).length : Int) := i64w (by omega) (by omega)
  refine ⟨?_, ?_, ?_, ?_, trivial⟩
  · simp (disch := omega) only [ob_45, ewA, ewL, preC, binI, dvI, shI, cmpB, env, bi, List.headD, List.tail, List.map, Nat.reduceAdd, ewB, ewM, if_true, if_false, implies_true, forall_const, ne_eq, reduceCtorEq, Int.reduceEq, Int.reduceLT, Int.reduceLE, Int.reduceToNat, Int.reduceAdd, Int.reduceSub, Int.reduceMul, Int.reduceNeg, Int.reduceBEq, Nat.reduceLT, Nat.reduceEqDiff, F56_0, P56, h0, e, wl]
    exact ⟨⟨p1, p2⟩, fun h => by omega⟩
  all_goals simp (disch := omega) only [es_45, e45, fn45, ewA, ewL, preC, binI, dvI, shI, cmpB, env, bi, List.headD, List.tail, List.map, Nat.reduceAdd, ewB, ewM, if_true, if_false, implies_true, forall_const, ne_eq, reduceCtorEq, Int.reduceEq, Int.reduceLT, Int.reduceLE, Int.reduceToNat, Int.reduceAdd, Int.reduceSub, Int.reduceMul, Int.reduceNeg, Int.reduceBEq, Nat.reduceLT, Nat.reduceEqDiff, F56_0, P56, h0, e, wl]
  · by_cases h : (sortT (dc c)).length = 0
    · rw [if_pos (by omega), List.length_eq_zero_iff.1 h]; rfl
    · rw [if_neg (by omega)]
  · by_cases h : (sortT (dc c)).length = 0
    · rw [if_pos (by omega), List.length_eq_zero_iff.1 h]; rfl
    · rw [if_neg (by omega)]
  · by_cases h : (sortT (dc c)).length = 0
    · rw [h]; rfl
    · have y1 : (((sortT (dc c)).length : Int) == 0) = false := by simpa using h
      rw [y1]; simp [h]

theorem ok49 : EntryOK Try.prog G0 e49 := cS6ok.entryP mixed ev_49 _ rfl _ rfl fun xs hf hp => by
  obtain ⟨l, hl, hF⟩ := ctx_P (l0 := cS6.l)
  show ob_49.tt cS6.l.F _ = true ∧ outsP e49.fn _ cS6.l.F _ _ _ _
  rw [hl]
  have F59_0 : ∀ xs, l.F 59 0 xs = e59.fn 0 xs := (hF e59 (by rfl) (by decide)).1 0 rfl
  have P59 := (hF e59 (by rfl) (by decide)).2
  replace P59 : ∀ xs, (i2b (K.b.norm (l.F 59 1000000 xs)) = true) = _ := P59
  match xs, hf with
  | [now, c, id], hf =>
    obtain ⟨h0, h1, h2, _⟩ := hf
    simp only [norm_i, norm_x] at h0 h2
    obtain ⟨⟨p1, p2⟩, p3, p4⟩ := hp
    simp only [ewA, ewL, preC, binI, dvI, shI, cmpB, env, bi, List.headD, List.tail, List.map, Nat.reduceAdd] at p1 p2 p3 p4
    have e : dc (e59.fn 0 [c, id]) = delT id (dc c) := dc_cd _
    have hc := p2
    unfold capR at hc
    have hle : (delT id (dc c)).length ≤ (dc c).length := List.length_filter_le _ _
    have w1 : IntKind.i64.wrap ((delT id (dc c)).length : Int) = ((delT id (dc c)).length : Int) := i64w (by omega) (by omega)
    have w2 : IntKind.i64.wrap ((dc c).length : Int) = ((dc c).length : Int) := i64w (by omega) (by omega)
    have y1 : (((delT id (dc c)).length : Int) = ((dc c).length : Int)) ↔ hasL (dc c) id = false := ⟨fun h => (del_len (dc c) id).1 (by omega), fun h => by have := (del_len (dc c) id).2 h; omega⟩
    have y2 : (0 ≤ id → 4095 < id) ↔ rightB id = false := ⟨fun h => rightB_bad' (by omega), fun h => by
      by_cases hr : 0 ≤ id ∧ id ≤ 4095
      · rw [rightB_ok hr.1 (by omega)] at h; cases h
      · omega⟩
    refine ⟨?_, ?_, ?_, ?_, trivial⟩
    · simp (disch := omega) only [ob_49, ewA, ewL, preC, binI, dvI, shI, cmpB, env, bi, List.headD, List.tail, List.map, Nat.reduceAdd, ewB, ewM, if_true, if_false, implies_true, forall_const, ne_eq, reduceCtorEq, Int.reduceEq, Int.reduceLT, Int.reduceLE, Int.reduceToNat, Int.reduceAdd, Int.reduceSub, Int.reduceMul, Int.reduceNeg, Int.reduceBEq, Nat.reduceLT, Nat.reduceEqDiff, F59_0, P59, h0, h2, e, w1, w2]
      exact ⟨fun _ => ⟨p1, p2⟩, fun h _ => h⟩
    · simp (disch := omega) only [es_49, e49, fn49, ewA, ewL, preC, binI, dvI, shI, cmpB, env, bi, List.headD, List.tail, List.map, Nat.reduceAdd, ewB, ewM, if_true, if_false, implies_true, forall_const, ne_eq, reduceCtorEq, Int.reduceEq, Int.reduceLT, Int.reduceLE, Int.reduceToNat, Int.reduceAdd, Int.reduceSub, Int.reduceMul, Int.reduceNeg, Int.reduceBEq, Nat.reduceLT, Nat.reduceEqDiff, F59_0, P59, h0, h2, e, w1, w2]
    all_goals simp (disch := omega) only [es_49, e49, fn49, ewA, ewL, preC, binI, dvI, shI, cmpB, env, bi, List.headD, List.tail, List.map, Nat.reduceAdd, ewB, ewM, if_true, if_false, implies_true, forall_const, ne_eq, reduceCtorEq, Int.reduceEq, Int.reduceLT, Int.reduceLE, Int.reduceToNat, Int.reduceAdd, Int.reduceSub, Int.reduceMul, Int.reduceNeg, Int.reduceBEq, Nat.reduceLT, Nat.reduceEqDiff, F59_0, P59, h0, h2, e, w1, w2]
    · simp only [y1, y2]
      cases rightB id <;> cases hasL (dc c) id <;> rfl
    · simp only [y1, y2]
      cases rightB id <;> cases hasL (dc c) id <;> rfl

theorem ok53 : EntryOK Try.prog G0 e53 := cS6ok.entryP mixed ev_53 _ rfl _ rfl fun xs hf hp => by
  obtain ⟨l, hl, hF⟩ := ctx_P (l0 := cS6.l)
  show ob_53.tt cS6.l.F _ = true ∧ outsP e53.fn _ cS6.l.F _ _ _ _
  rw [hl]
  have F59_0 : ∀ xs, l.F 59 0 xs = e59.fn 0 xs := (hF e59 (by rfl) (by decide)).1 0 rfl
  have P59 := (hF e59 (by rfl) (by decide)).2
  replace P59 : ∀ xs, (i2b (K.b.norm (l.F 59 1000000 xs)) = true) = _ := P59
  match xs, hf with
  | [now, c, id, d], hf =>
    obtain ⟨h0, h1, h2, h3, _⟩ := hf
    simp only [norm_i, norm_x] at h0 h2 h3
    obtain ⟨⟨p1, p2⟩, p3, p4, p5⟩ := hp
    simp only [ewA, ewL, preC, binI, dvI, shI, cmpB, env, bi, List.headD, List.tail, List.map, Nat.reduceAdd] at p1 p2 p3 p4 p5
    have e : dc (e59.fn 0 [c, id]) = delT id (dc c) := dc_cd _
    have hc := p2
    unfold capR at hc
    have hle : (delT id (dc c)).length ≤ (dc c).length := List.length_filter_le _ _
    refine ⟨?_, ?_, ?_, ?_, trivial⟩
    · simp (disch := omega) only [ob_53, ewA, ewL, preC, binI, dvI, shI, cmpB, env, bi, List.headD, List.tail, List.map, Nat.reduceAdd, ewB, ewM, if_true, if_false, implies_true, forall_const, ne_eq, reduceCtorEq, Int.reduceEq, Int.reduceLT, Int.reduceLE, Int.reduceToNat, Int.reduceAdd, Int.reduceSub, Int.reduceMul, Int.reduceNeg, Int.reduceBEq, Nat.reduceLT, Nat.reduceEqDiff, F59_0, P59, h0, h2, h3]
      exact ⟨fun _ => ⟨⟨p1, p2⟩, by rw [e]; simp only [List.length_append, List.length_cons, List.length_nil]; omega⟩, fun h => h⟩
    · simp (disch := omega) only [es_53, e53, fn53, ewA, ewL, preC, binI, dvI, shI, cmpB, env, bi, List.headD, List.tail, List.map, Nat.reduceAdd, ewB, ewM, if_true, if_false, implies_true, forall_const, ne_eq, reduceCtorEq, Int.reduceEq, Int.reduceLT, Int.reduceLE, Int.reduceToNat, Int.reduceAdd, Int.reduceSub, Int.reduceMul, Int.reduceNeg, Int.reduceBEq, Nat.reduceLT, Nat.reduceEqDiff, F59_0, P59, h0, h2, h3]
    all_goals simp (disch := omega) only [es_53, e53, fn53, ewA, ewL, preC, binI, dvI, shI, cmpB, env, bi, List.headD, List.tail, List.map, Nat.reduceAdd, ewB, ewM, if_true, if_false, implies_true, forall_const, ne_eq, reduceCtorEq, Int.reduceEq, Int.reduceLT, Int.reduceLE, Int.reduceToNat, Int.reduceAdd, Int.reduceSub, Int.reduceMul, Int.reduceNeg, Int.reduceBEq, Nat.reduceLT, Nat.reduceEqDiff, F59_0, P59, h0, h2, h3]
    · rw [e]
      by_cases ha : armB now id d = true
      · have := (arm_iff p4 h3).1 ha
        rw [if_pos ha, if_neg]
        exact fun h => absurd (h this.1) (by omega)
      · have := mt (arm_iff p4 h3).2 ha
        rw [if_neg ha, if_pos]
        exact fun h => by
          by_cases h2 : IntKind.i64.wrap (d - now) ≤ 2147483648
          · exact absurd ⟨h, h2⟩ this
          · omega
    · by_cases ha : armB now id d = true
      · have := (arm_iff p4 h3).1 ha
        rw [if_pos ha, if_neg]
        exact fun h => absurd (h this.1) (by omega)
      · have := mt (arm_iff p4 h3).2 ha
        rw [if_neg ha, if_pos]
        exact fun h => by
          by_cases h2 : IntKind.i64.wrap (d - now) ≤ 2147483648
          · exact absurd ⟨h, h2⟩ this
          · omega

end
end Go.Proofs.Ytmolkkphnehgcaa.Ew
