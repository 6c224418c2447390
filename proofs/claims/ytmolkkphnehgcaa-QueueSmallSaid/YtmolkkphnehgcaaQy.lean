/- Layer 17: the reference's functions, first part. -/
import Derived.Test.YtmolkkphnehgcaaQx
set_option linter.unusedVariables false
set_option linter.unusedSimpArgs false
namespace Go.Proofs.Ytmolkkphnehgcaa.Ew
open Go Go.RowKit
noncomputable section
--P Try.prog G0

def bS : Sh := .sc .b
def capR : Int := 100000
def e58 : Ent := ⟨58, 58, [tm, tm], [], [], bS, fun _ xs => b2i (decide (env xs 0 = env xs 2) && decide (env xs 1 = env xs 3)), fun _ => True⟩
def fnL57 : Nat → List Int → Int
  | 0, xs => b2i ((dc (env xs 1)).drop (env xs 3).toNat == (dc (env xs 0)).drop (env xs 3).toNat)
  | _, _ => 0
def preL57 (xs : List Int) : Prop := env xs 2 = ((dc (env xs 1)).length : Int) ∧ (dc (env xs 0)).length = (dc (env xs 1)).length ∧ 0 ≤ env xs 3 ∧ env xs 3 ≤ env xs 2 ∧ env xs 2 < cap8 ∧ rowsOK tmK (dc (env xs 0)) ∧ rowsOK tmK (dc (env xs 1))
def mu57 (xs : List Int) : Nat := (env xs 2 - env xs 3).toNat
def le57 : LEnt := ⟨⟨9057, 999999, [ls78, .fnc 58 [], .lt .b 0, ls34, i64, i64], [], [0, 1], .tup [.sc .b, .sc .b], fnL57, preL57⟩, [1, 2, 6, 15, 16, 17], [6], [7, 8, 9] ++ (List.range 15).map (· + 17), [.ex 0, .ret], 32, [1, 15]⟩
def e57 : Ent := ⟨57, 57, [ls34, ls78, .fnc 58 []], [], [0, 1], bS, fun _ xs => b2i (dc (env xs 0) == dc (env xs 1)), pre18⟩
def e47 : Ent := ⟨47, 47, [ls34, ls78], [], [0, 1], bS, fun _ xs => b2i (dc (env xs 0) == dc (env xs 1)), pre18⟩
def fn35 : Nat → List Int → Int
  | 0, xs => env xs 0
  | _, xs => cd []
def fn35b : Nat → List Int → Int
  | 0, xs => 0
  | _, xs => cd []
def e35a : Ent := ⟨1351, 35, [i64], [], [], .tup [rq, .lt (.i .i64) 0], fn35, fun xs => timB (env xs 0)⟩
def e35b : Ent := ⟨1352, 35, [i64], [], [], .tup [rq, .lt (.i .i64) 2], fn35b, fun xs => ¬ timB (env xs 0)⟩
/-- A list with rows put behind it, one by one. -/
def appC (l : RL) (c : Int) : Int := l.foldl (fun c r => cd (dc c ++ [r])) c
def fnL59 (_ : Nat) (xs : List Int) : Int := appC (delT (env xs 1) ((dc (env xs 0)).drop (env xs 3).toNat)) (env xs 2)
def preL59 (xs : List Int) : Prop := rowsOK tmK (dc (env xs 0)) ∧ ((dc (env xs 0)).length : Int) < capR ∧ ((dc (env xs 2)).length : Int) ≤ env xs 3 ∧ 0 ≤ env xs 3 ∧ env xs 3 ≤ ((dc (env xs 0)).length : Int)
def mu59 (xs : List Int) : Nat := (((dc (env xs 0)).length : Int) - env xs 3).toNat
def le59 : LEnt := ⟨⟨9059, 999999, [ls78, i64, lo78, i64], [], [0], .tup [lo78], fnL59, preL59⟩, [0, 1, 5, 6], [5], (List.range 22).map (· + 6), [.ex 0], 28, [0]⟩
def e59 : Ent := ⟨59, 59, [ls78, i64], [], [0], lo78, fun _ xs => cd (delT (env xs 1) (dc (env xs 0))), fun xs => rowsOK tmK (dc (env xs 0)) ∧ ((dc (env xs 0)).length : Int) < capR⟩
def e61 : Ent := ⟨61, 61, [tm, tm], [], [], bS, fun _ xs => b2i (ltT [env xs 0, env xs 1] [env xs 2, env xs 3]), fun _ => True⟩
def cR0 : Ctx := ⟨[], []⟩
def cR1 : Ctx := ⟨[e58], []⟩
def cR2 : Ctx := ⟨[e58], [(57, [true,true,false,true,false], le57)]⟩
def cR3 : Ctx := ⟨[e57, e58], []⟩
def cR4 : Ctx := ⟨[], [(59, [true,true,false,true,false], le59)]⟩

def ob_58 : E := (.lit .b 1)
def es_58 : List E := [(.and (.cmp .eql (.var (.i .i64) 0) (.var (.i .i64) 2)) (.cmp .eql (.var (.i .i64) 1) (.var (.i .i64) 3)))]
theorem ev_58 : evE Try.prog G0 (tabOf cR0.fs) (ltOf cR0.ls) 40 10 e58 = some (ob_58, es_58) := by kernel_rfl

def ob_L57 : E := (.and (.or (.not (.cmp .lss (.var (.i .i64) 3) (.var (.i .i64) 2))) (.and (.and (.cmp .geq (.var (.i .i64) 3) (.lit (.i .i64) 0)) (.cmp .lss (.var (.i .i64) 3) (.app (.i .i64) 0 0 [(.var .x 1)]))) (.and (.and (.cmp .geq (.var (.i .i64) 3) (.lit (.i .i64) 0)) (.cmp .lss (.var (.i .i64) 3) (.app (.i .i64) 0 0 [(.var .x 0)]))) (.app .b 58 1000000 [(.app (.i .i64) 0 1 [(.var .x 1), (.var (.i .i64) 3), (.lit .x 0)]), (.app (.i .i64) 0 1 [(.var .x 1), (.var (.i .i64) 3), (.lit .x 1)]), (.app (.i .i64) 0 1 [(.var .x 0), (.var (.i .i64) 3), (.lit .x 0)]), (.app (.i .i64) 0 1 [(.var .x 0), (.var (.i .i64) 3), (.lit .x 1)])])))) (.or (.not (.and (.cmp .lss (.var (.i .i64) 3) (.var (.i .i64) 2)) (.app .b 58 0 [(.app (.i .i64) 0 1 [(.var .x 1), (.var (.i .i64) 3), (.lit .x 0)]), (.app (.i .i64) 0 1 [(.var .x 1), (.var (.i .i64) 3), (.lit .x 1)]), (.app (.i .i64) 0 1 [(.var .x 0), (.var (.i .i64) 3), (.lit .x 0)]), (.app (.i .i64) 0 1 [(.var .x 0), (.var (.i .i64) 3), (.lit .x 1)])]))) (.app .b 9057 1000000 [(.var .x 0), (.var .x 1), (.var (.i .i64) 2), (.bin .add .i64 (.var (.i .i64) 3) (.lit (.i .i64) 1))])))
def es_L57 : List E := [(.ite (.or (.not (.cmp .lss (.var (.i .i64) 3) (.var (.i .i64) 2))) (.and (.and (.cmp .lss (.var (.i .i64) 3) (.var (.i .i64) 2)) (.app .b 58 0 [(.app (.i .i64) 0 1 [(.var .x 1), (.var (.i .i64) 3), (.lit .x 0)]), (.app (.i .i64) 0 1 [(.var .x 1), (.var (.i .i64) 3), (.lit .x 1)]), (.app (.i .i64) 0 1 [(.var .x 0), (.var (.i .i64) 3), (.lit .x 0)]), (.app (.i .i64) 0 1 [(.var .x 0), (.var (.i .i64) 3), (.lit .x 1)])])) (.app .b 9057 0 [(.var .x 0), (.var .x 1), (.var (.i .i64) 2), (.bin .add .i64 (.var (.i .i64) 3) (.lit (.i .i64) 1))]))) (.lit .b 1) (.lit .b 0)), (.ite (.or (.not (.cmp .lss (.var (.i .i64) 3) (.var (.i .i64) 2))) (.and (.and (.cmp .lss (.var (.i .i64) 3) (.var (.i .i64) 2)) (.app .b 58 0 [(.app (.i .i64) 0 1 [(.var .x 1), (.var (.i .i64) 3), (.lit .x 0)]), (.app (.i .i64) 0 1 [(.var .x 1), (.var (.i .i64) 3), (.lit .x 1)]), (.app (.i .i64) 0 1 [(.var .x 0), (.var (.i .i64) 3), (.lit .x 0)]), (.app (.i .i64) 0 1 [(.var .x 0), (.var (.i .i64) 3), (.lit .x 1)])])) (.app .b 9057 0 [(.var .x 0), (.var .x 1), (.var (.i .i64) 2), (.bin .add .i64 (.var (.i .i64) 3) (.lit (.i .i64) 1))]))) (.and (.cmp .lss (.var (.i .i64) 3) (.var (.i .i64) 2)) (.app .b 9057 1 [(.var .x 0), (.var .x 1), (.var (.i .i64) 2), (.bin .add .i64 (.var (.i .i64) 3) (.lit (.i .i64) 1))])) (.and (.not (.and (.cmp .lss (.var (.i .i64) 3) (.var (.i .i64) 2)) (.not (.app .b 58 0 [(.app (.i .i64) 0 1 [(.var .x 1), (.var (.i .i64) 3), (.lit .x 0)]), (.app (.i .i64) 0 1 [(.var .x 1), (.var (.i .i64) 3), (.lit .x 1)]), (.app (.i .i64) 0 1 [(.var .x 0), (.var (.i .i64) 3), (.lit .x 0)]), (.app (.i .i64) 0 1 [(.var .x 0), (.var (.i .i64) 3), (.lit .x 1)])])))) (.app .b 9057 1 [(.var .x 0), (.var .x 1), (.var (.i .i64) 2), (.bin .add .i64 (.var (.i .i64) 3) (.lit (.i .i64) 1))])))]
theorem ev_L57 : evL Try.prog G0 (tabOf cR1.fs) (evFn Try.prog G0 (tabOf cR1.fs) (ltOf cR1.ls) 40 10) 40 (subL cR1.ls 57 [true,true,false,true,false]) le57 (bodyAt Try.prog 57 [true,true,false,true,false]) = some (ob_L57, es_L57) := by kernel_rfl

def ob_57 : E := (.or (.cmp .neq (.app (.i .i64) 0 0 [(.var .x 0)]) (.app (.i .i64) 0 0 [(.var .x 1)])) (.app .b 9057 1000000 [(.var .x 1), (.var .x 0), (.app (.i .i64) 0 0 [(.var .x 0)]), (.lit (.i .i64) 0)]))
def es_57 : List E := [(.and (.not (.cmp .neq (.app (.i .i64) 0 0 [(.var .x 0)]) (.app (.i .i64) 0 0 [(.var .x 1)]))) (.or (.app .b 9057 0 [(.var .x 1), (.var .x 0), (.app (.i .i64) 0 0 [(.var .x 0)]), (.lit (.i .i64) 0)]) (.app .b 9057 1 [(.var .x 1), (.var .x 0), (.app (.i .i64) 0 0 [(.var .x 0)]), (.lit (.i .i64) 0)])))]
theorem ev_57 : evE Try.prog G0 (tabOf cR2.fs) (ltOf cR2.ls) 40 10 e57 = some (ob_57, es_57) := by kernel_rfl

def ob_47 : E := (.app .b 57 1000000 [(.var .x 0), (.var .x 1)])
def es_47 : List E := [(.app .b 57 0 [(.var .x 0), (.var .x 1)])]
theorem ev_47 : evE Try.prog G0 (tabOf cR3.fs) (ltOf cR3.ls) 40 10 e47 = some (ob_47, es_47) := by kernel_rfl

def ob_35a : E := (.cmp .eql (.ite (.or (.cmp .lss (.var (.i .i64) 0) (.lit (.i .i64) 0)) (.cmp .gtr (.var (.i .i64) 0) (.lit (.i .i64) 1099511627776))) (.lit (.i .i64) 2) (.lit (.i .i64) 0)) (.lit (.i .i64) 0))
def es_35a : List E := [(.ite (.or (.cmp .lss (.var (.i .i64) 0) (.lit (.i .i64) 0)) (.cmp .gtr (.var (.i .i64) 0) (.lit (.i .i64) 1099511627776))) (.lit (.i .i64) 0) (.var (.i .i64) 0)), (.app .x 0 2 [])]
theorem ev_35a : evE Try.prog G0 (tabOf cR0.fs) (ltOf cR0.ls) 40 10 e35a = some (ob_35a, es_35a) := by kernel_rfl

def ob_35b : E := (.cmp .eql (.ite (.or (.cmp .lss (.var (.i .i64) 0) (.lit (.i .i64) 0)) (.cmp .gtr (.var (.i .i64) 0) (.lit (.i .i64) 1099511627776))) (.lit (.i .i64) 2) (.lit (.i .i64) 0)) (.lit (.i .i64) 2))
def es_35b : List E := [(.ite (.or (.cmp .lss (.var (.i .i64) 0) (.lit (.i .i64) 0)) (.cmp .gtr (.var (.i .i64) 0) (.lit (.i .i64) 1099511627776))) (.lit (.i .i64) 0) (.var (.i .i64) 0)), (.app .x 0 2 [])]
theorem ev_35b : evE Try.prog G0 (tabOf cR0.fs) (ltOf cR0.ls) 40 10 e35b = some (ob_35b, es_35b) := by kernel_rfl

def ob_L59 : E := (.and (.and (.or (.not (.cmp .lss (.var (.i .i64) 3) (.app (.i .i64) 0 0 [(.var .x 0)]))) (.and (.and (.cmp .geq (.var (.i .i64) 3) (.lit (.i .i64) 0)) (.cmp .lss (.var (.i .i64) 3) (.app (.i .i64) 0 0 [(.var .x 0)]))) (.or (.not (.cmp .neq (.app (.i .i64) 0 1 [(.var .x 0), (.var (.i .i64) 3), (.lit .x 0)]) (.var (.i .i64) 1))) (.and (.and (.cmp .geq (.var (.i .i64) 3) (.lit (.i .i64) 0)) (.cmp .lss (.var (.i .i64) 3) (.app (.i .i64) 0 0 [(.var .x 0)]))) (.and (.and (.cmp .geq (.var (.i .i64) 3) (.lit (.i .i64) 0)) (.cmp .lss (.var (.i .i64) 3) (.app (.i .i64) 0 0 [(.var .x 0)]))) (.cmp .leq (.app .x 0 0 [(.app .x 0 4 [(.var .x 2), (.app .x 0 3 [(.app .x 0 2 []), (.app (.i .i64) 0 1 [(.var .x 0), (.var (.i .i64) 3), (.lit .x 0)]), (.app (.i .i64) 0 1 [(.var .x 0), (.var (.i .i64) 3), (.lit .x 1)])])])]) (.lit .x 8796093022208))))))) (.or (.not (.cmp .lss (.var (.i .i64) 3) (.app (.i .i64) 0 0 [(.var .x 0)]))) (.and (.ite (.cmp .neq (.app (.i .i64) 0 1 [(.var .x 0), (.var (.i .i64) 3), (.lit .x 0)]) (.var (.i .i64) 1)) (.cmp .neq (.app (.i .i64) 0 1 [(.var .x 0), (.var (.i .i64) 3), (.lit .x 0)]) (.var (.i .i64) 1)) (.not (.cmp .neq (.app (.i .i64) 0 1 [(.var .x 0), (.var (.i .i64) 3), (.lit .x 0)]) (.var (.i .i64) 1)))) (.app .b 9059 1000000 [(.var .x 0), (.var (.i .i64) 1), (.ite (.cmp .neq (.app (.i .i64) 0 1 [(.var .x 0), (.var (.i .i64) 3), (.lit .x 0)]) (.var (.i .i64) 1)) (.app .x 0 4 [(.var .x 2), (.app .x 0 3 [(.app .x 0 2 []), (.app (.i .i64) 0 1 [(.var .x 0), (.var (.i .i64) 3), (.lit .x 0)]), (.app (.i .i64) 0 1 [(.var .x 0), (.var (.i .i64) 3), (.lit .x 1)])])]) (.var .x 2)), (.bin .add .i64 (.var (.i .i64) 3) (.lit (.i .i64) 1))])))) (.or (.not (.or (.not (.cmp .lss (.var (.i .i64) 3) (.app (.i .i64) 0 0 [(.var .x 0)]))) (.cmp .lss (.var (.i .i64) 3) (.app (.i .i64) 0 0 [(.var .x 0)])))) (.ite (.not (.cmp .lss (.var (.i .i64) 3) (.app (.i .i64) 0 0 [(.var .x 0)]))) (.not (.cmp .lss (.var (.i .i64) 3) (.app (.i .i64) 0 0 [(.var .x 0)]))) (.cmp .lss (.var (.i .i64) 3) (.app (.i .i64) 0 0 [(.var .x 0)])))))
def es_L59 : List E := [(.ite (.not (.cmp .lss (.var (.i .i64) 3) (.app (.i .i64) 0 0 [(.var .x 0)]))) (.var .x 2) (.app .x 9059 0 [(.var .x 0), (.var (.i .i64) 1), (.ite (.cmp .neq (.app (.i .i64) 0 1 [(.var .x 0), (.var (.i .i64) 3), (.lit .x 0)]) (.var (.i .i64) 1)) (.app .x 0 4 [(.var .x 2), (.app .x 0 3 [(.app .x 0 2 []), (.app (.i .i64) 0 1 [(.var .x 0), (.var (.i .i64) 3), (.lit .x 0)]), (.app (.i .i64) 0 1 [(.var .x 0), (.var (.i .i64) 3), (.lit .x 1)])])]) (.var .x 2)), (.bin .add .i64 (.var (.i .i64) 3) (.lit (.i .i64) 1))]))]
theorem ev_L59 : evL Try.prog G0 (tabOf cR0.fs) (evFn Try.prog G0 (tabOf cR0.fs) (ltOf cR0.ls) 40 10) 40 (subL cR0.ls 59 [true,true,false,true,false]) le59 (bodyAt Try.prog 59 [true,true,false,true,false]) = some (ob_L59, es_L59) := by kernel_rfl

def ob_59 : E := (.app .b 9059 1000000 [(.var .x 0), (.var (.i .i64) 1), (.app .x 0 2 []), (.lit (.i .i64) 0)])
def es_59 : List E := [(.app .x 9059 0 [(.var .x 0), (.var (.i .i64) 1), (.app .x 0 2 []), (.lit (.i .i64) 0)])]
theorem ev_59 : evE Try.prog G0 (tabOf cR4.fs) (ltOf cR4.ls) 40 10 e59 = some (ob_59, es_59) := by kernel_rfl

def ob_61 : E := (.lit .b 1)
def es_61 : List E := [(.ite (.cmp .neq (.var (.i .i64) 1) (.var (.i .i64) 3)) (.cmp .lss (.var (.i .i64) 1) (.var (.i .i64) 3)) (.cmp .lss (.var (.i .i64) 0) (.var (.i .i64) 2)))]
theorem ev_61 : evE Try.prog G0 (tabOf cR0.fs) (ltOf cR0.ls) 40 10 e61 = some (ob_61, es_61) := by kernel_rfl

theorem dc_appC : ∀ (l : RL) (c : Int), dc (appC l c) = dc c ++ l
  | [], c => (List.append_nil _).symm
  | r :: l, c => by
    show dc (appC l (cd (dc c ++ [r]))) = _
    rw [dc_appC l, dc_cd, List.append_assoc]; rfl

theorem appC_cd : ∀ (l a : RL), appC l (cd a) = cd (a ++ l)
  | [], a => by rw [List.append_nil]; rfl
  | r :: l, a => by
    show appC l (cd (dc (cd a) ++ [r])) = _
    rw [dc_cd, appC_cd l, List.append_assoc]; rfl

theorem cR0ok : cR0.OK Try.prog G0 := Ctx.OK.nil

theorem ok58 : EntryOK Try.prog G0 e58 := cR0ok.entryP mixed ev_58 _ rfl _ rfl fun xs hf hp => by
  obtain ⟨l, hl, hF⟩ := ctx_P (l0 := cR0.l)
  show ob_58.tt cR0.l.F _ = true ∧ outsP e58.fn _ cR0.l.F _ _ _ _
  rw [hl]
  match xs, hf with
  | [a, b, c, d], hf =>
    obtain ⟨h0, h1, h2, h3, _⟩ := hf
    simp only [norm_i] at h0 h1 h2 h3
    refine ⟨?_, ?_, trivial⟩
    · simp (disch := omega) only [ob_58, ewA, ewL, preC, binI, dvI, shI, cmpB, env, bi, List.headD, List.tail, List.map, Nat.reduceAdd, ewB, ewM, if_true, if_false, implies_true, forall_const, ne_eq, reduceCtorEq, Int.reduceEq, Int.reduceLT, Int.reduceLE, Int.reduceToNat, Int.reduceAdd, Int.reduceSub, Int.reduceMul, Int.reduceNeg, Int.reduceBEq, Nat.reduceLT, Nat.reduceEqDiff, h0, h1, h2, h3]
    · simp (disch := omega) only [es_58, e58, ewA, ewL, preC, binI, dvI, shI, cmpB, env, bi, List.headD, List.tail, List.map, Nat.reduceAdd, ewB, ewM, if_true, if_false, implies_true, forall_const, ne_eq, reduceCtorEq, Int.reduceEq, Int.reduceLT, Int.reduceLE, Int.reduceToNat, Int.reduceAdd, Int.reduceSub, Int.reduceMul, Int.reduceNeg, Int.reduceBEq, Nat.reduceLT, Nat.reduceEqDiff, h0, h1, h2, h3]
      congr 1

theorem ok61 : EntryOK Try.prog G0 e61 := cR0ok.entryP mixed ev_61 _ rfl _ rfl fun xs hf hp => by
  obtain ⟨l, hl, hF⟩ := ctx_P (l0 := cR0.l)
  show ob_61.tt cR0.l.F _ = true ∧ outsP e61.fn _ cR0.l.F _ _ _ _
  rw [hl]
  match xs, hf with
  | [a, b, c, d], hf =>
    obtain ⟨h0, h1, h2, h3, _⟩ := hf
    simp only [norm_i] at h0 h1 h2 h3
    refine ⟨?_, ?_, trivial⟩
    · simp (disch := omega) only [ob_61, ewA, ewL, preC, binI, dvI, shI, cmpB, env, bi, List.headD, List.tail, List.map, Nat.reduceAdd, ewB, ewM, if_true, if_false, implies_true, forall_const, ne_eq, reduceCtorEq, Int.reduceEq, Int.reduceLT, Int.reduceLE, Int.reduceToNat, Int.reduceAdd, Int.reduceSub, Int.reduceMul, Int.reduceNeg, Int.reduceBEq, Nat.reduceLT, Nat.reduceEqDiff, h0, h1, h2, h3]
    · simp (disch := omega) only [es_61, e61, ewA, ewL, preC, binI, dvI, shI, cmpB, env, bi, List.headD, List.tail, List.map, Nat.reduceAdd, ewB, ewM, if_true, if_false, implies_true, forall_const, ne_eq, reduceCtorEq, Int.reduceEq, Int.reduceLT, Int.reduceLE, Int.reduceToNat, Int.reduceAdd, Int.reduceSub, Int.reduceMul, Int.reduceNeg, Int.reduceBEq, Nat.reduceLT, Nat.reduceEqDiff, h0, h1, h2, h3]
      show b2i (decide (b < d) || (decide (b = d) && decide (a < c))) = _
      by_cases hbd : b = d
      · subst hbd; simp
      · simp [hbd]

theorem cR1ok : cR1.OK Try.prog G0 := cR0ok.addF ok58 rfl

set_option maxHeartbeats 4000000 in
theorem lo57 : ItemOK Try.prog G0 57 [true,true,false,true,false] le57 := by
  refine cR1ok.loopP mixed mu57 rfl ?_ ev_L57 _ rfl _ rfl ?_
  · exact ⟨_, _, _, Try.func57, rfl, rfl⟩
  intro n xs hf hp hmu
  obtain ⟨l, hl, hS, hF⟩ := self_P le57 mu57 n cR1.l (by decide)
  show ob_L57.tt (Tabs.F (enL le57 mu57 n :: cR1.l)) _ = true ∧ outsP le57.ent.fn _ (Tabs.F (enL le57 mu57 n :: cR1.l)) _ _ _ _
  rw [hl]
  have F58_0 : ∀ xs, l.F 58 0 xs = e58.fn 0 xs := (hF e58 (by rfl) (by decide) (by decide)).1 0 rfl
  have P58 := (hF e58 (by rfl) (by decide) (by decide)).2
  replace P58 : ∀ xs, (i2b (K.b.norm (l.F 58 1000000 xs)) = true) = _ := P58
  have F9057_0 : ∀ xs, l.F 9057 0 xs = le57.ent.fn 0 xs := hS.1 0 rfl
  have F9057_1 : ∀ xs, l.F 9057 1 xs = le57.ent.fn 1 xs := hS.1 1 rfl
  have P9057 := hS.2
  replace P9057 : ∀ xs, (i2b (K.b.norm (l.F 9057 1000000 xs)) = true) = _ := P9057
  match xs, hf with
  | [d, c, m, i], hf =>
    obtain ⟨h0, h1, h2, h3, _⟩ := hf
    simp only [norm_i, norm_x] at h2 h3
    obtain ⟨p1, p2, p3, p4, p5, p6, p7⟩ := hp
    simp only [ewA, ewL, preC, binI, dvI, shI, cmpB, env, bi, List.headD, List.tail, List.map, Nat.reduceAdd] at p1 p2 p3 p4 p5 p6 p7 hmu
    unfold cap8 at p5
    have e1 : le57.ent.fn = fnL57 := rfl
    have e2 : le57.ent.pre = preL57 := rfl
    by_cases hlt : i < m
    · obtain ⟨r, hr, hrf, hrm, hrd⟩ := row_at p7 p3 (by omega)
      obtain ⟨s, hs, hsf, hsm, hsd⟩ := row_at p6 p3 (by omega)
      match r, hrf, s, hsf with
      | [a, b], hrf, [a', b'], hsf =>
        obtain ⟨k0, k1, _⟩ := hrf
        obtain ⟨k0', k1', _⟩ := hsf
        simp only [norm_i] at k0 k1 k0' k1'
        refine ⟨?_, ?_, ?_, trivial⟩
        · simp (disch := omega) only [ob_L57, ewA, ewL, preC, binI, dvI, shI, cmpB, env, bi, List.headD, List.tail, List.map, Nat.reduceAdd, ewB, ewM, if_true, if_false, implies_true, forall_const, ne_eq, reduceCtorEq, Int.reduceEq, Int.reduceLT, Int.reduceLE, Int.reduceToNat, Int.reduceAdd, Int.reduceSub, Int.reduceMul, Int.reduceNeg, Int.reduceBEq, Nat.reduceLT, Nat.reduceEqDiff, F58_0, P58, F9057_0, F9057_1, P9057, h2, h3, hlt, hr, hs, k0, k1, k0', k1', e58, e2]
          exact ⟨⟨⟨p3, by omega⟩, p3, by omega⟩, fun _ => ⟨⟨p1, p2, by show 0 ≤ i + 1; omega, by show i + 1 ≤ m; omega, by show m < cap8; unfold cap8; omega, p6, p7⟩, by simp only [mu57, ewA, ewL, preC, binI, dvI, shI, cmpB, env, bi, List.headD, List.tail, List.map, Nat.reduceAdd] at hmu ⊢; omega⟩⟩
        all_goals simp (disch := omega) only [es_L57, ewA, ewL, preC, binI, dvI, shI, cmpB, env, bi, List.headD, List.tail, List.map, Nat.reduceAdd, ewB, ewM, if_true, if_false, implies_true, forall_const, ne_eq, reduceCtorEq, Int.reduceEq, Int.reduceLT, Int.reduceLE, Int.reduceToNat, Int.reduceAdd, Int.reduceSub, Int.reduceMul, Int.reduceNeg, Int.reduceBEq, Nat.reduceLT, Nat.reduceEqDiff, F58_0, P58, F9057_0, F9057_1, P9057, h2, h3, hlt, hr, hs, k0, k1, k0', k1', e58, e1]
        · show K.b.norm (b2i ((dc c).drop i.toNat == (dc d).drop i.toNat)) = if (a = a' ∧ b = b') ∧ i2b (K.b.norm (b2i ((dc c).drop (i + 1).toNat == (dc d).drop (i + 1).toNat))) = true then 1 else 0
          have hc : ([a, b] :: (dc c).drop (i + 1).toNat == [a', b'] :: (dc d).drop (i + 1).toNat) = ((a == a' && b == b') && (dc c).drop (i + 1).toNat == (dc d).drop (i + 1).toNat) := by simp [List.cons_beq_cons]
          rw [hrd, hsd, norm_b2i, norm_b2i, i2b_b2i, hc]
          generalize ((dc c).drop (i + 1).toNat == (dc d).drop (i + 1).toNat) = q
          by_cases x1 : a = a' <;> by_cases x2 : b = b' <;> cases q <;> simp [x1, x2, b2i]
          all_goals
            have y1 : (a == a') = decide (a = a') := by by_cases h : a = a' <;> simp [h]
            have y2 : (b == b') = decide (b = b') := by by_cases h : b = b' <;> simp [h]
            simp [y1, y2, x1, x2]
        · show K.b.norm 0 = if (a = a' ∧ b = b') ∧ i2b (K.b.norm (fnL57 0 [d, c, m, i + 1])) = true then b2i (decide True && i2b (K.b.norm 0)) else b2i (!(decide True && !(decide (a = a') && decide (b = b'))) && i2b (K.b.norm 0))
          rw [nb0, i2b0, Bool.and_false, Bool.and_false]; split <;> rfl
    · have hd1 : (dc c).drop i.toNat = [] := List.drop_of_length_le (by omega)
      have hd2 : (dc d).drop i.toNat = [] := List.drop_of_length_le (by omega)
      refine ⟨?_, ?_, ?_, trivial⟩
      · simp (disch := omega) only [ob_L57, ewA, ewL, preC, binI, dvI, shI, cmpB, env, bi, List.headD, List.tail, List.map, Nat.reduceAdd, ewB, ewM, if_true, if_false, implies_true, forall_const, ne_eq, reduceCtorEq, Int.reduceEq, Int.reduceLT, Int.reduceLE, Int.reduceToNat, Int.reduceAdd, Int.reduceSub, Int.reduceMul, Int.reduceNeg, Int.reduceBEq, Nat.reduceLT, Nat.reduceEqDiff, F58_0, P58, F9057_0, F9057_1, P9057, h2, h3, hlt]
      · simp (disch := omega) only [es_L57, ewA, ewL, preC, binI, dvI, shI, cmpB, env, bi, List.headD, List.tail, List.map, Nat.reduceAdd, ewB, ewM, if_true, if_false, implies_true, forall_const, ne_eq, reduceCtorEq, Int.reduceEq, Int.reduceLT, Int.reduceLE, Int.reduceToNat, Int.reduceAdd, Int.reduceSub, Int.reduceMul, Int.reduceNeg, Int.reduceBEq, Nat.reduceLT, Nat.reduceEqDiff, F58_0, P58, F9057_0, F9057_1, P9057, h2, h3, hlt, e1, fnL57, hd1, hd2]; rfl
      · simp (disch := omega) only [es_L57, ewA, ewL, preC, binI, dvI, shI, cmpB, env, bi, List.headD, List.tail, List.map, Nat.reduceAdd, ewB, ewM, if_true, if_false, implies_true, forall_const, ne_eq, reduceCtorEq, Int.reduceEq, Int.reduceLT, Int.reduceLE, Int.reduceToNat, Int.reduceAdd, Int.reduceSub, Int.reduceMul, Int.reduceNeg, Int.reduceBEq, Nat.reduceLT, Nat.reduceEqDiff, F58_0, P58, F9057_0, F9057_1, P9057, h2, h3, hlt, e1, fnL57]; rfl

theorem cR2ok : cR2.OK Try.prog G0 := cR1ok.addL lo57 rfl

theorem ok57 : EntryOK Try.prog G0 e57 := cR2ok.entryP mixed ev_57 _ rfl _ rfl fun xs hf hp => by
  obtain ⟨l, hl, hF⟩ := ctx_P (l0 := cR2.l)
  show ob_57.tt cR2.l.F _ = true ∧ outsP e57.fn _ cR2.l.F _ _ _ _
  rw [hl]
  have F9057_0 : ∀ xs, l.F 9057 0 xs = le57.ent.fn 0 xs := (hF le57.ent (by rfl) (by decide)).1 0 rfl
  have F9057_1 : ∀ xs, l.F 9057 1 xs = le57.ent.fn 1 xs := (hF le57.ent (by rfl) (by decide)).1 1 rfl
  have P9057 := (hF le57.ent (by rfl) (by decide)).2
  replace P9057 : ∀ xs, (i2b (K.b.norm (l.F 9057 1000000 xs)) = true) = _ := P9057
  obtain ⟨c, d, rfl⟩ := two_of (fits_length hf)
  obtain ⟨p1, p2, p3, p4⟩ := hp
  simp only [ewA, ewL, preC, binI, dvI, shI, cmpB, env, bi, List.headD, List.tail, List.map, Nat.reduceAdd] at p1 p2 p3 p4
  unfold cap8 at p1 p2
  by_cases hl2 : (dc c).length = (dc d).length
  · refine ⟨?_, ?_, trivial⟩
    · simp (disch := omega) only [ob_57, ewA, ewL, preC, binI, dvI, shI, cmpB, env, bi, List.headD, List.tail, List.map, Nat.reduceAdd, ewB, ewM, if_true, if_false, implies_true, forall_const, ne_eq, reduceCtorEq, Int.reduceEq, Int.reduceLT, Int.reduceLE, Int.reduceToNat, Int.reduceAdd, Int.reduceSub, Int.reduceMul, Int.reduceNeg, Int.reduceBEq, Nat.reduceLT, Nat.reduceEqDiff, F9057_0, F9057_1, P9057, hl2]
      exact ⟨by show ((dc d).length : Int) = ((dc c).length : Int); omega, hl2.symm, by show (0 : Int) ≤ 0; omega, by show (0 : Int) ≤ ((dc d).length : Int); omega, by show ((dc d).length : Int) < cap8; unfold cap8; omega, p4, p3⟩
    · simp (disch := omega) only [es_57, e57, ewA, ewL, preC, binI, dvI, shI, cmpB, env, bi, List.headD, List.tail, List.map, Nat.reduceAdd, ewB, ewM, if_true, if_false, implies_true, forall_const, ne_eq, reduceCtorEq, Int.reduceEq, Int.reduceLT, Int.reduceLE, Int.reduceToNat, Int.reduceAdd, Int.reduceSub, Int.reduceMul, Int.reduceNeg, Int.reduceBEq, Nat.reduceLT, Nat.reduceEqDiff, F9057_0, F9057_1, P9057, hl2]
      have f0 : le57.ent.fn 0 [d, c, ((dc d).length : Int), 0] = b2i (dc c == dc d) := rfl
      have f1 : le57.ent.fn 1 [d, c, ((dc d).length : Int), 0] = 0 := rfl
      rw [f0, f1, norm_b2i, i2b_b2i, nb0, i2b0]; simp
  · refine ⟨?_, ?_, trivial⟩
    · simp (disch := omega) only [ob_57, ewA, ewL, preC, binI, dvI, shI, cmpB, env, bi, List.headD, List.tail, List.map, Nat.reduceAdd, ewB, ewM, if_true, if_false, implies_true, forall_const, ne_eq, reduceCtorEq, Int.reduceEq, Int.reduceLT, Int.reduceLE, Int.reduceToNat, Int.reduceAdd, Int.reduceSub, Int.reduceMul, Int.reduceNeg, Int.reduceBEq, Nat.reduceLT, Nat.reduceEqDiff, F9057_0, F9057_1, P9057, hl2]
      exact fun e => absurd (by omega) hl2
    · simp (disch := omega) only [es_57, e57, ewA, ewL, preC, binI, dvI, shI, cmpB, env, bi, List.headD, List.tail, List.map, Nat.reduceAdd, ewB, ewM, if_true, if_false, implies_true, forall_const, ne_eq, reduceCtorEq, Int.reduceEq, Int.reduceLT, Int.reduceLE, Int.reduceToNat, Int.reduceAdd, Int.reduceSub, Int.reduceMul, Int.reduceNeg, Int.reduceBEq, Nat.reduceLT, Nat.reduceEqDiff, F9057_0, F9057_1, P9057, hl2]
      have hne : (((dc c).length : Int) != ((dc d).length : Int)) = true := by simp; omega
      have hd : (dc c == dc d) = false := by
        rw [beq_eq_false_iff_ne]
        exact fun e => hl2 (by rw [e])
      rw [hne, hd]; rfl

theorem cR3ok : cR3.OK Try.prog G0 := cR1ok.addF ok57 rfl

theorem ok47 : EntryOK Try.prog G0 e47 := cR3ok.entryP mixed ev_47 _ rfl _ rfl fun xs hf hp => by
  obtain ⟨l, hl, hF⟩ := ctx_P (l0 := cR3.l)
  show ob_47.tt cR3.l.F _ = true ∧ outsP e47.fn _ cR3.l.F _ _ _ _
  rw [hl]
  have F57_0 : ∀ xs, l.F 57 0 xs = e57.fn 0 xs := (hF e57 (by rfl) (by decide)).1 0 rfl
  have P57 := (hF e57 (by rfl) (by decide)).2
  replace P57 : ∀ xs, (i2b (K.b.norm (l.F 57 1000000 xs)) = true) = _ := P57
  obtain ⟨c, d, rfl⟩ := two_of (fits_length hf)
  refine ⟨?_, ?_, trivial⟩
  · simp (disch := omega) only [ob_47, ewA, ewL, preC, binI, dvI, shI, cmpB, env, bi, List.headD, List.tail, List.map, Nat.reduceAdd, ewB, ewM, if_true, if_false, implies_true, forall_const, ne_eq, reduceCtorEq, Int.reduceEq, Int.reduceLT, Int.reduceLE, Int.reduceToNat, Int.reduceAdd, Int.reduceSub, Int.reduceMul, Int.reduceNeg, Int.reduceBEq, Nat.reduceLT, Nat.reduceEqDiff, F57_0, P57]
    exact hp
  · simp (disch := omega) only [es_47, e47, ewA, ewL, preC, binI, dvI, shI, cmpB, env, bi, List.headD, List.tail, List.map, Nat.reduceAdd, ewB, ewM, if_true, if_false, implies_true, forall_const, ne_eq, reduceCtorEq, Int.reduceEq, Int.reduceLT, Int.reduceLE, Int.reduceToNat, Int.reduceAdd, Int.reduceSub, Int.reduceMul, Int.reduceNeg, Int.reduceBEq, Nat.reduceLT, Nat.reduceEqDiff, F57_0, P57]
    show _ = K.b.norm (b2i (dc c == dc d))
    rw [norm_b2i]

theorem ok35a : EntryOK Try.prog G0 e35a := cR0ok.entryP mixed ev_35a _ rfl _ rfl fun xs hf hp => by
  obtain ⟨l, hl, hF⟩ := ctx_P (l0 := cR0.l)
  show ob_35a.tt cR0.l.F _ = true ∧ outsP e35a.fn _ cR0.l.F _ _ _ _
  rw [hl]
  match xs, hf with
  | [n], hf =>
    obtain ⟨h0, _⟩ := hf
    simp only [norm_i] at h0
    obtain ⟨p1, p2⟩ := hp
    simp only [ewA, ewL, preC, binI, dvI, shI, cmpB, env, bi, List.headD, List.tail, List.map, Nat.reduceAdd] at p1 p2
    refine ⟨?_, ?_, ?_, trivial⟩
    · simp (disch := omega) only [ob_35a, ewA, ewL, preC, binI, dvI, shI, cmpB, env, bi, List.headD, List.tail, List.map, Nat.reduceAdd, ewB, ewM, if_true, if_false, implies_true, forall_const, ne_eq, reduceCtorEq, Int.reduceEq, Int.reduceLT, Int.reduceLE, Int.reduceToNat, Int.reduceAdd, Int.reduceSub, Int.reduceMul, Int.reduceNeg, Int.reduceBEq, Nat.reduceLT, Nat.reduceEqDiff, h0]
      rw [if_neg (by omega)]
    · simp (disch := omega) only [es_35a, e35a, fn35, ewA, ewL, preC, binI, dvI, shI, cmpB, env, bi, List.headD, List.tail, List.map, Nat.reduceAdd, ewB, ewM, if_true, if_false, implies_true, forall_const, ne_eq, reduceCtorEq, Int.reduceEq, Int.reduceLT, Int.reduceLE, Int.reduceToNat, Int.reduceAdd, Int.reduceSub, Int.reduceMul, Int.reduceNeg, Int.reduceBEq, Nat.reduceLT, Nat.reduceEqDiff, h0]
      rw [if_neg (by omega)]
    · simp (disch := omega) only [es_35a, e35a, fn35, ewA, ewL, preC, binI, dvI, shI, cmpB, env, bi, List.headD, List.tail, List.map, Nat.reduceAdd, ewB, ewM, if_true, if_false, implies_true, forall_const, ne_eq, reduceCtorEq, Int.reduceEq, Int.reduceLT, Int.reduceLE, Int.reduceToNat, Int.reduceAdd, Int.reduceSub, Int.reduceMul, Int.reduceNeg, Int.reduceBEq, Nat.reduceLT, Nat.reduceEqDiff, h0]

theorem ok35b : EntryOK Try.prog G0 e35b := cR0ok.entryP mixed ev_35b _ rfl _ rfl fun xs hf hp => by
  obtain ⟨l, hl, hF⟩ := ctx_P (l0 := cR0.l)
  show ob_35b.tt cR0.l.F _ = true ∧ outsP e35b.fn _ cR0.l.F _ _ _ _
  rw [hl]
  match xs, hf with
  | [n], hf =>
    obtain ⟨h0, _⟩ := hf
    simp only [norm_i] at h0
    have hp' : ¬ (0 ≤ n ∧ n ≤ 1099511627776) := hp
    refine ⟨?_, ?_, ?_, trivial⟩
    · simp (disch := omega) only [ob_35b, ewA, ewL, preC, binI, dvI, shI, cmpB, env, bi, List.headD, List.tail, List.map, Nat.reduceAdd, ewB, ewM, if_true, if_false, implies_true, forall_const, ne_eq, reduceCtorEq, Int.reduceEq, Int.reduceLT, Int.reduceLE, Int.reduceToNat, Int.reduceAdd, Int.reduceSub, Int.reduceMul, Int.reduceNeg, Int.reduceBEq, Nat.reduceLT, Nat.reduceEqDiff, h0]
      rw [if_pos (by omega)]
    · simp (disch := omega) only [es_35b, e35b, fn35b, ewA, ewL, preC, binI, dvI, shI, cmpB, env, bi, List.headD, List.tail, List.map, Nat.reduceAdd, ewB, ewM, if_true, if_false, implies_true, forall_const, ne_eq, reduceCtorEq, Int.reduceEq, Int.reduceLT, Int.reduceLE, Int.reduceToNat, Int.reduceAdd, Int.reduceSub, Int.reduceMul, Int.reduceNeg, Int.reduceBEq, Nat.reduceLT, Nat.reduceEqDiff, h0]
      rw [if_pos (by omega)]
    · simp (disch := omega) only [es_35b, e35b, fn35b, ewA, ewL, preC, binI, dvI, shI, cmpB, env, bi, List.headD, List.tail, List.map, Nat.reduceAdd, ewB, ewM, if_true, if_false, implies_true, forall_const, ne_eq, reduceCtorEq, Int.reduceEq, Int.reduceLT, Int.reduceLE, Int.reduceToNat, Int.reduceAdd, Int.reduceSub, Int.reduceMul, Int.reduceNeg, Int.reduceBEq, Nat.reduceLT, Nat.reduceEqDiff, h0]

set_option maxHeartbeats 4000000 in
theorem lo59 : ItemOK Try.prog G0 59 [true,true,false,true,false] le59 := by
  refine cR0ok.loopP mixed mu59 rfl ?_ ev_L59 _ rfl _ rfl ?_
  · exact ⟨_, _, _, Try.func59, rfl, rfl⟩
  intro n xs hf hp hmu
  obtain ⟨l, hl, hS, hF⟩ := self_P le59 mu59 n cR0.l (by decide)
  show ob_L59.tt (Tabs.F (enL le59 mu59 n :: cR0.l)) _ = true ∧ outsP le59.ent.fn _ (Tabs.F (enL le59 mu59 n :: cR0.l)) _ _ _ _
  rw [hl]
  have F9059_0 : ∀ xs, l.F 9059 0 xs = le59.ent.fn 0 xs := hS.1 0 rfl
  have P9059 := hS.2
  replace P9059 : ∀ xs, (i2b (K.b.norm (l.F 9059 1000000 xs)) = true) = _ := P9059
  match xs, hf with
  | [c, id, o, i], hf =>
    obtain ⟨h0, h1, h2, h3, _⟩ := hf
    simp only [norm_i, norm_x] at h1 h3
    obtain ⟨p1, p2, p3, p4, p5⟩ := hp
    simp only [ewA, ewL, preC, binI, dvI, shI, cmpB, env, bi, List.headD, List.tail, List.map, Nat.reduceAdd] at p1 p2 p3 p4 p5 hmu
    unfold capR at p2
    have e1 : le59.ent.fn = fnL59 := rfl
    have e2 : le59.ent.pre = preL59 := rfl
    by_cases hlt : i < ((dc c).length : Int)
    · obtain ⟨r, hr, hrf, hrm, hrd⟩ := row_at p1 p4 hlt
      match r, hrf with
      | [a, b], hrf =>
        obtain ⟨k0, k1, _⟩ := hrf
        simp only [norm_i] at k0 k1
        by_cases hid : a = id
        · refine ⟨?_, ?_, trivial⟩
          · simp (disch := omega) only [ob_L59, ewA, ewL, preC, binI, dvI, shI, cmpB, env, bi, List.headD, List.tail, List.map, Nat.reduceAdd, ewB, ewM, if_true, if_false, implies_true, forall_const, ne_eq, reduceCtorEq, Int.reduceEq, Int.reduceLT, Int.reduceLE, Int.reduceToNat, Int.reduceAdd, Int.reduceSub, Int.reduceMul, Int.reduceNeg, Int.reduceBEq, Nat.reduceLT, Nat.reduceEqDiff, F9059_0, P9059, h1, h3, hlt, hr, k0, k1, hid, e2]
            exact ⟨p4, ⟨p1, by show ((dc c).length : Int) < capR; unfold capR; omega, by show ((dc o).length : Int) ≤ i + 1; omega, by show 0 ≤ i + 1; omega, by show i + 1 ≤ ((dc c).length : Int); omega⟩, by simp only [mu59, ewA, ewL, preC, binI, dvI, shI, cmpB, env, bi, List.headD, List.tail, List.map, Nat.reduceAdd] at hmu ⊢; omega⟩
          · simp (disch := omega) only [es_L59, ewA, ewL, preC, binI, dvI, shI, cmpB, env, bi, List.headD, List.tail, List.map, Nat.reduceAdd, ewB, ewM, if_true, if_false, implies_true, forall_const, ne_eq, reduceCtorEq, Int.reduceEq, Int.reduceLT, Int.reduceLE, Int.reduceToNat, Int.reduceAdd, Int.reduceSub, Int.reduceMul, Int.reduceNeg, Int.reduceBEq, Nat.reduceLT, Nat.reduceEqDiff, F9059_0, P9059, h1, h3, hlt, hr, k0, k1, hid, e1]
            show appC (delT id ((dc c).drop i.toNat)) o = appC (delT id ((dc c).drop (i + 1).toNat)) o
            rw [hrd]
            have : delT id ([a, b] :: (dc c).drop (i + 1).toNat) = delT id ((dc c).drop (i + 1).toNat) := by unfold delT; simp [idR, hid]
            rw [this]
        · refine ⟨?_, ?_, trivial⟩
          · simp (disch := omega) only [ob_L59, ewA, ewL, preC, binI, dvI, shI, cmpB, env, bi, List.headD, List.tail, List.map, Nat.reduceAdd, ewB, ewM, if_true, if_false, implies_true, forall_const, ne_eq, reduceCtorEq, Int.reduceEq, Int.reduceLT, Int.reduceLE, Int.reduceToNat, Int.reduceAdd, Int.reduceSub, Int.reduceMul, Int.reduceNeg, Int.reduceBEq, Nat.reduceLT, Nat.reduceEqDiff, F9059_0, P9059, h1, h3, hlt, hr, k0, k1, hid, e2]
            have hl : ((dc o ++ [[a, b]]).length : Int) = ((dc o).length : Int) + 1 := by simp
            exact ⟨⟨p4, p4, p4, by omega⟩, ⟨p1, by show ((dc c).length : Int) < capR; unfold capR; omega, by show ((dc (cd (dc o ++ [[a, b]]))).length : Int) ≤ i + 1; rw [dc_cd]; omega, by show 0 ≤ i + 1; omega, by show i + 1 ≤ ((dc c).length : Int); omega⟩, by simp only [mu59, ewA, ewL, preC, binI, dvI, shI, cmpB, env, bi, List.headD, List.tail, List.map, Nat.reduceAdd] at hmu ⊢; omega⟩
          · simp (disch := omega) only [es_L59, ewA, ewL, preC, binI, dvI, shI, cmpB, env, bi, List.headD, List.tail, List.map, Nat.reduceAdd, ewB, ewM, if_true, if_false, implies_true, forall_const, ne_eq, reduceCtorEq, Int.reduceEq, Int.reduceLT, Int.reduceLE, Int.reduceToNat, Int.reduceAdd, Int.reduceSub, Int.reduceMul, Int.reduceNeg, Int.reduceBEq, Nat.reduceLT, Nat.reduceEqDiff, F9059_0, P9059, h1, h3, hlt, hr, k0, k1, hid, e1]
            show appC (delT id ((dc c).drop i.toNat)) o = appC (delT id ((dc c).drop (i + 1).toNat)) (cd (dc o ++ [[a, b]]))
            rw [hrd]
            have : delT id ([a, b] :: (dc c).drop (i + 1).toNat) = [a, b] :: delT id ((dc c).drop (i + 1).toNat) := by unfold delT; simp [idR, hid]
            rw [this]; rfl
    · have hd : (dc c).drop i.toNat = [] := List.drop_of_length_le (by omega)
      refine ⟨?_, ?_, trivial⟩
      · simp (disch := omega) only [ob_L59, ewA, ewL, preC, binI, dvI, shI, cmpB, env, bi, List.headD, List.tail, List.map, Nat.reduceAdd, ewB, ewM, if_true, if_false, implies_true, forall_const, ne_eq, reduceCtorEq, Int.reduceEq, Int.reduceLT, Int.reduceLE, Int.reduceToNat, Int.reduceAdd, Int.reduceSub, Int.reduceMul, Int.reduceNeg, Int.reduceBEq, Nat.reduceLT, Nat.reduceEqDiff, F9059_0, P9059, h1, h3, hlt]
      · simp (disch := omega) only [es_L59, ewA, ewL, preC, binI, dvI, shI, cmpB, env, bi, List.headD, List.tail, List.map, Nat.reduceAdd, ewB, ewM, if_true, if_false, implies_true, forall_const, ne_eq, reduceCtorEq, Int.reduceEq, Int.reduceLT, Int.reduceLE, Int.reduceToNat, Int.reduceAdd, Int.reduceSub, Int.reduceMul, Int.reduceNeg, Int.reduceBEq, Nat.reduceLT, Nat.reduceEqDiff, F9059_0, P9059, h1, h3, hlt, e1, fnL59, hd]
        rfl

theorem cR4ok : cR4.OK Try.prog G0 := cR0ok.addL lo59 rfl

theorem ok59 : EntryOK Try.prog G0 e59 := cR4ok.entryP mixed ev_59 _ rfl _ rfl fun xs hf hp => by
  obtain ⟨l, hl, hF⟩ := ctx_P (l0 := cR4.l)
  show ob_59.tt cR4.l.F _ = true ∧ outsP e59.fn _ cR4.l.F _ _ _ _
  rw [hl]
  have F9059_0 : ∀ xs, l.F 9059 0 xs = le59.ent.fn 0 xs := (hF le59.ent (by rfl) (by decide)).1 0 rfl
  have P9059 := (hF le59.ent (by rfl) (by decide)).2
  replace P9059 : ∀ xs, (i2b (K.b.norm (l.F 9059 1000000 xs)) = true) = _ := P9059
  obtain ⟨c, id, rfl⟩ := two_of (fits_length hf)
  obtain ⟨h0, h1, _⟩ := hf
  simp only [norm_i, norm_x] at h1
  obtain ⟨p1, p2⟩ := hp
  simp only [ewA, ewL, preC, binI, dvI, shI, cmpB, env, bi, List.headD, List.tail, List.map, Nat.reduceAdd] at p1 p2
  refine ⟨?_, ?_, trivial⟩
  · simp (disch := omega) only [ob_59, ewA, ewL, preC, binI, dvI, shI, cmpB, env, bi, List.headD, List.tail, List.map, Nat.reduceAdd, ewB, ewM, if_true, if_false, implies_true, forall_const, ne_eq, reduceCtorEq, Int.reduceEq, Int.reduceLT, Int.reduceLE, Int.reduceToNat, Int.reduceAdd, Int.reduceSub, Int.reduceMul, Int.reduceNeg, Int.reduceBEq, Nat.reduceLT, Nat.reduceEqDiff, F9059_0, P9059, h1]
    exact ⟨p1, p2, by show ((dc (cd [])).length : Int) ≤ 0; rw [dc_cd]; exact Int.le_refl _, by show (0 : Int) ≤ 0; omega, by show (0 : Int) ≤ ((dc c).length : Int); omega⟩
  · simp (disch := omega) only [es_59, e59, ewA, ewL, preC, binI, dvI, shI, cmpB, env, bi, List.headD, List.tail, List.map, Nat.reduceAdd, ewB, ewM, if_true, if_false, implies_true, forall_const, ne_eq, reduceCtorEq, Int.reduceEq, Int.reduceLT, Int.reduceLE, Int.reduceToNat, Int.reduceAdd, Int.reduceSub, Int.reduceMul, Int.reduceNeg, Int.reduceBEq, Nat.reduceLT, Nat.reduceEqDiff, F9059_0, P9059, h1]
    show cd (delT id (dc c)) = appC (delT id (dc c)) (cd [])
    rw [appC_cd]; rfl

end
end Go.Proofs.Ytmolkkphnehgcaa.Ew
