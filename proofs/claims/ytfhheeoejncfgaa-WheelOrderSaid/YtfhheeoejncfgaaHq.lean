/- Layer 18: a wheel after some acts. -/
import Derived.Test.YtfhheeoejncfgaaHo
set_option linter.unusedVariables false
set_option linter.unusedSimpArgs false
namespace Go.Proofs.Ytfhheeoejncfgaa.Ew
open Go Go.RowKit
noncomputable section
--P Try.prog G0

def pre26 (xs : List Int) : Prop := WE (env xs 0) (env xs 1) (env xs 2) (env xs 3) (env xs 4) (env xs 5) (env xs 6)
def b26 : Ent := ⟨26, 26, [wsh, i64, actS, nfS], [wob], [], .lt .b 1, z0, pre26⟩
def cP : Ctx := ⟨[e18, e25], [(26, pAr, leAr)]⟩
def cPn : Ctx := cP.nm

def a_26_0 : List E := [(.var .x 0), (.var (.i .i64) 1), (.var (.i .i64) 2), (.var (.i .i64) 3), (.var (.i .i64) 4), (.var .x 5), (.var (.i .i64) 6), (.var (.i .i64) 640000160002176), (.conv .i64 (.dv .rem .u8 (.var (.i .u8) 7) 8)), (.ite (.cmp .eql (.conv .i64 (.dv .rem .u8 (.var (.i .u8) 7) 8)) (.lit (.i .i64) 3)) (.var (.i .i64) 640000160010368) (.var (.i .i64) 640000160007808)), (.bin .add .i64 (.lit (.i .i64) 1) (.ite (.cmp .eql (.conv .i64 (.dv .rem .u8 (.var (.i .u8) 7) 8)) (.lit (.i .i64) 3)) (.lit (.i .i64) 0) (.var (.i .i64) 640000160003712))), (.lit (.i .i64) 0)]
def defs_26 : List (Nat × E) := [(640000160002176, (.app (.i .i64) 100000025 0 [(.var (.i .i64) 8), (.var (.i .i64) 6)])),
  (640000160003712, (.app (.i .i64) 100000025 0 [(.var (.i .i64) 10), (.lit (.i .i64) 20)])),
  (640000160007808, (.app (.i .i64) 100000025 0 [(.var (.i .i64) 9), (.lit (.i .i64) 3000)])),
  (640000160010368, (.app (.i .i64) 100000025 0 [(.var (.i .i64) 9), (.lit (.i .i64) 2147483648)])),
  (640057766410368, (.app .x 100009026 0 a_26_0)),
  (640057766410369, (.app (.i .i64) 100009026 1 a_26_0)),
  (640057766410370, (.app (.i .i64) 100009026 2 a_26_0)),
  (640057766410371, (.app (.i .i64) 100009026 3 a_26_0)),
  (640057766410372, (.app (.i .i64) 100009026 4 a_26_0)),
  (640057766410373, (.app .x 100009026 5 a_26_0))]
def q_26_0 : E := (.cmp .eql (.conv .i64 (.dv .rem .u8 (.var (.i .u8) 7) 8)) (.lit (.i .i64) 3))
def ob_26 : E := (.and (.and (.and (.app .b 100000025 1000000 [(.var (.i .i64) 8), (.var (.i .i64) 6)]) (dE defs_26 0 1)) (.and (.and (.app .b 100000025 1000000 [(.var (.i .i64) 10), (.lit (.i .i64) 20)]) (dE defs_26 1 1)) (.and (.app .b 100000025 1000000 [(.var (.i .i64) 9), (.lit (.i .i64) 3000)]) (dE defs_26 2 1)))) (.and (.or (.not q_26_0) (.and (.app .b 100000025 1000000 [(.var (.i .i64) 9), (.lit (.i .i64) 2147483648)]) (dE defs_26 3 1))) (.and (.app .b 100009026 1000000 [(.var .x 0), (.var (.i .i64) 1), (.var (.i .i64) 2), (.var (.i .i64) 3), (.var (.i .i64) 4), (.var .x 5), (.var (.i .i64) 6), (.var (.i .i64) 640000160002176), (.conv .i64 (.dv .rem .u8 (.var (.i .u8) 7) 8)), (.ite q_26_0 (.var (.i .i64) 640000160010368) (.var (.i .i64) 640000160007808)), (.bin .add .i64 (.lit (.i .i64) 1) (.ite q_26_0 (.lit (.i .i64) 0) (.var (.i .i64) 640000160003712))), (.lit (.i .i64) 0)]) (dE defs_26 4 6))))
def es_26 : List E := [(.var .x 640057766410368), (.var (.i .i64) 640057766410369), (.var (.i .i64) 640057766410370), (.var (.i .i64) 640057766410371), (.var (.i .i64) 640057766410372), (.var .x 640057766410373)]
def e26 : Ent := b26.fw (fnR cPn.l.F b26.np ob_26 es_26 postAr)
theorem ev_26 : evE Try.prog G0 (tabOf cPn.fs) (ltOf cPn.ls) 40 10 e26 = some (ob_26, es_26) := by kernel_rfl

def pTm : List Bool := [true,true,true,false,true,false,false,true,true,false,false,true,true,false,true,false,true,true,true,false,true,false]
def preTm (xs : List Int) : Prop := (∃ c, WE (env xs 0) (env xs 1) (env xs 2) (env xs 3) (env xs 4) (env xs 5) c) ∧ env xs 4 + 4096 * (env xs 6 - env xs 7) ≤ 1125899906842624 ∧ 0 ≤ env xs 7 ∧ env xs 7 ≤ env xs 6 ∧ env xs 6 ≤ 300
def postTm (xs ys : List Int) : Prop := WE (env ys 0) (env ys 1) (env ys 2) (env ys 3) (env ys 4) (env ys 5) ((dc (env xs 5)).length : Nat) ∧ (env xs 1 ≤ env ys 1 ∧ env ys 1 ≤ env xs 1 + (env xs 6 - env xs 7)) ∧ env ys 2 = env xs 2 ∧ (env xs 4 ≤ env ys 4 ∧ env ys 4 ≤ env xs 4 + 4096 * (env xs 6 - env xs 7))
def muTm (xs : List Int) : Nat := (env xs 6 - env xs 7).toNat
def lbTm : LEnt := ⟨⟨9128, 999999, [wsh, i64, i64], [wob], [], .tup [], z0, preTm⟩, [6, 51, 52], [], (List.range 5).map (· + 52), [.ex 3], 68, []⟩

def a_LTm_0 : List E := [(.var .x 0), (.var (.i .i64) 1), (.var (.i .i64) 2), (.var (.i .i64) 3), (.var (.i .i64) 4), (.var .x 5)]
def defs_LTm : List (Nat × E) := [(640000096004480, (.app .x 100000015 0 a_LTm_0)),
  (640000096004481, (.app (.i .i64) 100000015 1 a_LTm_0)),
  (640000096004482, (.app (.i .i64) 100000015 2 a_LTm_0)),
  (640000096004483, (.app (.i .i64) 100000015 3 a_LTm_0)),
  (640000096004484, (.app (.i .i64) 100000015 4 a_LTm_0)),
  (640000096004485, (.app .x 100000015 5 a_LTm_0)),
  (640000096004486, (.app (.i .i64) 100000015 6 a_LTm_0))]
def ob_LTm : E := (.and (.and (.or (.not (.cmp .lss (.var (.i .i64) 7) (.var (.i .i64) 6))) (.and (.app .b 100000015 1000000 [(.var .x 0), (.var (.i .i64) 1), (.var (.i .i64) 2), (.var (.i .i64) 3), (.var (.i .i64) 4), (.var .x 5)]) (dE defs_LTm 0 7))) (.or (.not (.cmp .lss (.var (.i .i64) 7) (.var (.i .i64) 6))) (.app .b 9128 1000000 [(.var .x 640000096004480), (.var (.i .i64) 640000096004481), (.var (.i .i64) 640000096004482), (.var (.i .i64) 640000096004483), (.var (.i .i64) 640000096004484), (.var .x 640000096004485), (.var (.i .i64) 6), (.bin .add .i64 (.var (.i .i64) 7) (.lit (.i .i64) 1))]))) (.or (.not (.or (.not (.cmp .lss (.var (.i .i64) 7) (.var (.i .i64) 6))) (.cmp .lss (.var (.i .i64) 7) (.var (.i .i64) 6)))) (.ite (.not (.cmp .lss (.var (.i .i64) 7) (.var (.i .i64) 6))) (.not (.cmp .lss (.var (.i .i64) 7) (.var (.i .i64) 6))) (.cmp .lss (.var (.i .i64) 7) (.var (.i .i64) 6)))))
def es_LTm : List E := [(.ite (.not (.cmp .lss (.var (.i .i64) 7) (.var (.i .i64) 6))) (.var .x 0) (.app .x 9128 0 [(.var .x 640000096004480), (.var (.i .i64) 640000096004481), (.var (.i .i64) 640000096004482), (.var (.i .i64) 640000096004483), (.var (.i .i64) 640000096004484), (.var .x 640000096004485), (.var (.i .i64) 6), (.bin .add .i64 (.var (.i .i64) 7) (.lit (.i .i64) 1))])), (.ite (.not (.cmp .lss (.var (.i .i64) 7) (.var (.i .i64) 6))) (.var (.i .i64) 1) (.app (.i .i64) 9128 1 [(.var .x 640000096004480), (.var (.i .i64) 640000096004481), (.var (.i .i64) 640000096004482), (.var (.i .i64) 640000096004483), (.var (.i .i64) 640000096004484), (.var .x 640000096004485), (.var (.i .i64) 6), (.bin .add .i64 (.var (.i .i64) 7) (.lit (.i .i64) 1))])), (.ite (.not (.cmp .lss (.var (.i .i64) 7) (.var (.i .i64) 6))) (.var (.i .i64) 2) (.app (.i .i64) 9128 2 [(.var .x 640000096004480), (.var (.i .i64) 640000096004481), (.var (.i .i64) 640000096004482), (.var (.i .i64) 640000096004483), (.var (.i .i64) 640000096004484), (.var .x 640000096004485), (.var (.i .i64) 6), (.bin .add .i64 (.var (.i .i64) 7) (.lit (.i .i64) 1))])), (.ite (.not (.cmp .lss (.var (.i .i64) 7) (.var (.i .i64) 6))) (.var (.i .i64) 3) (.app (.i .i64) 9128 3 [(.var .x 640000096004480), (.var (.i .i64) 640000096004481), (.var (.i .i64) 640000096004482), (.var (.i .i64) 640000096004483), (.var (.i .i64) 640000096004484), (.var .x 640000096004485), (.var (.i .i64) 6), (.bin .add .i64 (.var (.i .i64) 7) (.lit (.i .i64) 1))])), (.ite (.not (.cmp .lss (.var (.i .i64) 7) (.var (.i .i64) 6))) (.var (.i .i64) 4) (.app (.i .i64) 9128 4 [(.var .x 640000096004480), (.var (.i .i64) 640000096004481), (.var (.i .i64) 640000096004482), (.var (.i .i64) 640000096004483), (.var (.i .i64) 640000096004484), (.var .x 640000096004485), (.var (.i .i64) 6), (.bin .add .i64 (.var (.i .i64) 7) (.lit (.i .i64) 1))])), (.ite (.not (.cmp .lss (.var (.i .i64) 7) (.var (.i .i64) 6))) (.var .x 5) (.app .x 9128 5 [(.var .x 640000096004480), (.var (.i .i64) 640000096004481), (.var (.i .i64) 640000096004482), (.var (.i .i64) 640000096004483), (.var (.i .i64) 640000096004484), (.var .x 640000096004485), (.var (.i .i64) 6), (.bin .add .i64 (.var (.i .i64) 7) (.lit (.i .i64) 1))]))]
def leTm : LEnt := lbTm.fw (fnL lbTm cTn.l ob_LTm es_LTm postTm muTm)
theorem ev_LTm : evL Try.prog G0 (tabOf cTn.fs) (evFn Try.prog G0 (tabOf cTn.fs) (ltOf cTn.ls) 40 10) 40 (subL cTn.ls 28 pTm) leTm (bodyAt Try.prog 28 pTm) = some (ob_LTm, es_LTm) := by kernel_rfl

def preMd (xs : List Int) : Prop := WE (env xs 0) (env xs 1) (env xs 2) (env xs 3) (env xs 4) (env xs 5) (env xs 6) ∧ actOK xs 7 ∧ env xs 8 = ((dc (env xs 7)).length : Int) ∧ env xs 4 + 1228800 * (env xs 8 - env xs 9) ≤ 1125899906842624 ∧ 0 ≤ env xs 9 ∧ env xs 9 ≤ env xs 8 ∧ env xs 8 ≤ 30
def postMd (xs ys : List Int) : Prop := WE (env ys 0) (env ys 1) (env ys 2) (env ys 3) (env ys 4) (env ys 5) (env xs 6) ∧ (env xs 1 ≤ env ys 1 ∧ env ys 1 ≤ env xs 1 + 300 * (env xs 8 - env xs 9)) ∧ env ys 2 = env xs 2 ∧ (env xs 4 ≤ env ys 4 ∧ env ys 4 ≤ env xs 4 + 1228800 * (env xs 8 - env xs 9))
def muMd (xs : List Int) : Nat := (env xs 8 - env xs 9).toNat
def lbMd : LEnt := ⟨⟨9028, 999999, [wsh, i64, acts, i64, i64], [wob], [2], .tup [], z0, preMd⟩, [6, 7, 24, 25, 26], [], [10, 11] ++ (List.range 41).map (· + 26), [.ex 0], 68, []⟩
def cU : Ctx := ⟨[e24, e25, e17, e26], [(28, pTm, leTm)]⟩
def cUn : Ctx := cU.nm

def a_LMd_0 : List E := [(.var .x 0), (.var (.i .i64) 1), (.var (.i .i64) 2), (.var (.i .i64) 3), (.var (.i .i64) 4), (.var .x 5), (.var (.i .i64) 640000160005056)]
def a_LMd_1 : List E := [(.var .x 0), (.var (.i .i64) 1), (.var (.i .i64) 2), (.var (.i .i64) 3), (.var (.i .i64) 4), (.var .x 5), (.bin .add .i64 (.lit (.i .i64) 1) (.var (.i .i64) 640000160005568)), (.lit (.i .i64) 0)]
def a_LMd_2 : List E := [(.var .x 0), (.var (.i .i64) 1), (.var (.i .i64) 2), (.var (.i .i64) 3), (.var (.i .i64) 4), (.var .x 5), (.var (.i .i64) 640000160005632)]
def a_LMd_3 : List E := [(.var .x 0), (.var (.i .i64) 1), (.var (.i .i64) 2), (.var (.i .i64) 3), (.var (.i .i64) 4), (.var .x 5), (.var (.i .i64) 6), (.app (.i .u8) 0 1 [(.var .x 7), (.var (.i .i64) 9), (.lit .x 0)]), (.app (.i .i64) 0 1 [(.var .x 7), (.var (.i .i64) 9), (.lit .x 1)]), (.app (.i .i64) 0 1 [(.var .x 7), (.var (.i .i64) 9), (.lit .x 2)]), (.app (.i .i64) 0 1 [(.var .x 7), (.var (.i .i64) 9), (.lit .x 3)])]
def defs_LMd : List (Nat × E) := [(640000160005056, (.app (.i .i64) 100000025 0 [(.app (.i .i64) 0 1 [(.var .x 7), (.var (.i .i64) 9), (.lit .x 1)]), (.var (.i .i64) 6)])),
  (640000153605056, (.app .x 100000024 0 a_LMd_0)),
  (640000153605057, (.app (.i .i64) 100000024 1 a_LMd_0)),
  (640000153605058, (.app (.i .i64) 100000024 2 a_LMd_0)),
  (640000153605059, (.app (.i .i64) 100000024 3 a_LMd_0)),
  (640000153605060, (.app (.i .i64) 100000024 4 a_LMd_0)),
  (640000153605061, (.app .x 100000024 5 a_LMd_0)),
  (640000153605062, (.app (.i .i64) 100000024 6 a_LMd_0)),
  (640000160005568, (.app (.i .i64) 100000025 0 [(.app (.i .i64) 0 1 [(.var .x 7), (.var (.i .i64) 9), (.lit .x 3)]), (.lit (.i .i64) 300)])),
  (640058419205568, (.app .x 100009128 0 a_LMd_1)),
  (640058419205569, (.app (.i .i64) 100009128 1 a_LMd_1)),
  (640058419205570, (.app (.i .i64) 100009128 2 a_LMd_1)),
  (640058419205571, (.app (.i .i64) 100009128 3 a_LMd_1)),
  (640058419205572, (.app (.i .i64) 100009128 4 a_LMd_1)),
  (640058419205573, (.app .x 100009128 5 a_LMd_1)),
  (640000160005632, (.app (.i .i64) 100000025 0 [(.app (.i .i64) 0 1 [(.var .x 7), (.var (.i .i64) 9), (.lit .x 3)]), (.lit (.i .i64) 50)])),
  (640000108805632, (.app .x 100000017 0 a_LMd_2)),
  (640000108805633, (.app (.i .i64) 100000017 1 a_LMd_2)),
  (640000108805634, (.app (.i .i64) 100000017 2 a_LMd_2)),
  (640000108805635, (.app (.i .i64) 100000017 3 a_LMd_2)),
  (640000108805636, (.app (.i .i64) 100000017 4 a_LMd_2)),
  (640000108805637, (.app .x 100000017 5 a_LMd_2)),
  (640000108805638, (.app .x 100000017 6 a_LMd_2)),
  (640000108805639, (.app (.i .i64) 100000017 7 a_LMd_2)),
  (640000166406144, (.app .x 100000026 0 a_LMd_3)),
  (640000166406145, (.app (.i .i64) 100000026 1 a_LMd_3)),
  (640000166406146, (.app (.i .i64) 100000026 2 a_LMd_3)),
  (640000166406147, (.app (.i .i64) 100000026 3 a_LMd_3)),
  (640000166406148, (.app (.i .i64) 100000026 4 a_LMd_3)),
  (640000166406149, (.app .x 100000026 5 a_LMd_3))]
def q_LMd_0 : E := (.dv .rem .u8 (.app (.i .u8) 0 1 [(.var .x 7), (.var (.i .i64) 9), (.lit .x 0)]) 8)
def q_LMd_1 : E := (.cmp .eql q_LMd_0 (.lit (.i .u8) 4))
def q_LMd_2 : E := (.ite q_LMd_1 q_LMd_1 (.cmp .eql q_LMd_0 (.lit (.i .u8) 7)))
def q_LMd_3 : E := (.not q_LMd_2)
def q_LMd_4 : E := (.cmp .eql q_LMd_0 (.lit (.i .u8) 5))
def q_LMd_5 : E := (.not q_LMd_4)
def q_LMd_6 : E := (.cmp .eql q_LMd_0 (.lit (.i .u8) 6))
def q_LMd_7 : E := (.not q_LMd_6)
def q_LMd_8 : E := (.ite q_LMd_2 (.var .x 640000153605056) (.ite q_LMd_4 (.var .x 640058419205568) (.ite q_LMd_6 (.var .x 640000108805632) (.var .x 640000166406144))))
def q_LMd_9 : E := (.ite q_LMd_2 (.var (.i .i64) 640000153605057) (.ite q_LMd_4 (.var (.i .i64) 640058419205569) (.ite q_LMd_6 (.var (.i .i64) 640000108805633) (.var (.i .i64) 640000166406145))))
def q_LMd_10 : E := (.ite q_LMd_2 (.var (.i .i64) 640000153605058) (.ite q_LMd_4 (.var (.i .i64) 640058419205570) (.ite q_LMd_6 (.var (.i .i64) 640000108805634) (.var (.i .i64) 640000166406146))))
def q_LMd_11 : E := (.ite q_LMd_2 (.var (.i .i64) 640000153605059) (.ite q_LMd_4 (.var (.i .i64) 640058419205571) (.ite q_LMd_6 (.var (.i .i64) 640000108805635) (.var (.i .i64) 640000166406147))))
def q_LMd_12 : E := (.ite q_LMd_2 (.var (.i .i64) 640000153605060) (.ite q_LMd_4 (.var (.i .i64) 640058419205572) (.ite q_LMd_6 (.var (.i .i64) 640000108805636) (.var (.i .i64) 640000166406148))))
def q_LMd_13 : E := (.ite q_LMd_2 (.var .x 640000153605061) (.ite q_LMd_4 (.var .x 640058419205573) (.ite q_LMd_6 (.var .x 640000108805637) (.var .x 640000166406149))))
def ob_LMd : E := (.and (.and (.or (.not (.cmp .lss (.var (.i .i64) 9) (.var (.i .i64) 8))) (.and (.and (.cmp .geq (.var (.i .i64) 9) (.lit (.i .i64) 0)) (.cmp .lss (.var (.i .i64) 9) (.app (.i .i64) 0 0 [(.var .x 7)]))) (.and (.or q_LMd_3 (.and (.and (.app .b 100000025 1000000 [(.app (.i .i64) 0 1 [(.var .x 7), (.var (.i .i64) 9), (.lit .x 1)]), (.var (.i .i64) 6)]) (dE defs_LMd 0 1)) (.and (.app .b 100000024 1000000 [(.var .x 0), (.var (.i .i64) 1), (.var (.i .i64) 2), (.var (.i .i64) 3), (.var (.i .i64) 4), (.var .x 5), (.var (.i .i64) 640000160005056)]) (dE defs_LMd 1 7)))) (.or q_LMd_2 (.and (.or q_LMd_5 (.and (.and (.app .b 100000025 1000000 [(.app (.i .i64) 0 1 [(.var .x 7), (.var (.i .i64) 9), (.lit .x 3)]), (.lit (.i .i64) 300)]) (dE defs_LMd 8 1)) (.and (.app .b 100009128 1000000 [(.var .x 0), (.var (.i .i64) 1), (.var (.i .i64) 2), (.var (.i .i64) 3), (.var (.i .i64) 4), (.var .x 5), (.bin .add .i64 (.lit (.i .i64) 1) (.var (.i .i64) 640000160005568)), (.lit (.i .i64) 0)]) (dE defs_LMd 9 6)))) (.or q_LMd_4 (.and (.or q_LMd_7 (.and (.and (.app .b 100000025 1000000 [(.app (.i .i64) 0 1 [(.var .x 7), (.var (.i .i64) 9), (.lit .x 3)]), (.lit (.i .i64) 50)]) (dE defs_LMd 15 1)) (.and (.app .b 100000017 1000000 [(.var .x 0), (.var (.i .i64) 1), (.var (.i .i64) 2), (.var (.i .i64) 3), (.var (.i .i64) 4), (.var .x 5), (.var (.i .i64) 640000160005632)]) (dE defs_LMd 16 8)))) (.or q_LMd_6 (.and (.app .b 100000026 1000000 [(.var .x 0), (.var (.i .i64) 1), (.var (.i .i64) 2), (.var (.i .i64) 3), (.var (.i .i64) 4), (.var .x 5), (.var (.i .i64) 6), (.app (.i .u8) 0 1 [(.var .x 7), (.var (.i .i64) 9), (.lit .x 0)]), (.app (.i .i64) 0 1 [(.var .x 7), (.var (.i .i64) 9), (.lit .x 1)]), (.app (.i .i64) 0 1 [(.var .x 7), (.var (.i .i64) 9), (.lit .x 2)]), (.app (.i .i64) 0 1 [(.var .x 7), (.var (.i .i64) 9), (.lit .x 3)])]) (dE defs_LMd 24 6)))))))))) (.or (.not (.cmp .lss (.var (.i .i64) 9) (.var (.i .i64) 8))) (.and (.ite q_LMd_2 q_LMd_2 (.ite q_LMd_4 (.and q_LMd_3 q_LMd_4) (.ite q_LMd_6 (.and q_LMd_3 (.and q_LMd_5 q_LMd_6)) (.and q_LMd_3 (.and q_LMd_5 q_LMd_7))))) (.app .b 9028 1000000 [q_LMd_8, q_LMd_9, q_LMd_10, q_LMd_11, q_LMd_12, q_LMd_13, (.var (.i .i64) 6), (.var .x 7), (.var (.i .i64) 8), (.bin .add .i64 (.var (.i .i64) 9) (.lit (.i .i64) 1))])))) (.or (.not (.or (.not (.cmp .lss (.var (.i .i64) 9) (.var (.i .i64) 8))) (.cmp .lss (.var (.i .i64) 9) (.var (.i .i64) 8)))) (.ite (.not (.cmp .lss (.var (.i .i64) 9) (.var (.i .i64) 8))) (.not (.cmp .lss (.var (.i .i64) 9) (.var (.i .i64) 8))) (.cmp .lss (.var (.i .i64) 9) (.var (.i .i64) 8)))))
def es_LMd : List E := [(.ite (.not (.cmp .lss (.var (.i .i64) 9) (.var (.i .i64) 8))) (.var .x 0) (.app .x 9028 0 [q_LMd_8, q_LMd_9, q_LMd_10, q_LMd_11, q_LMd_12, q_LMd_13, (.var (.i .i64) 6), (.var .x 7), (.var (.i .i64) 8), (.bin .add .i64 (.var (.i .i64) 9) (.lit (.i .i64) 1))])), (.ite (.not (.cmp .lss (.var (.i .i64) 9) (.var (.i .i64) 8))) (.var (.i .i64) 1) (.app (.i .i64) 9028 1 [q_LMd_8, q_LMd_9, q_LMd_10, q_LMd_11, q_LMd_12, q_LMd_13, (.var (.i .i64) 6), (.var .x 7), (.var (.i .i64) 8), (.bin .add .i64 (.var (.i .i64) 9) (.lit (.i .i64) 1))])), (.ite (.not (.cmp .lss (.var (.i .i64) 9) (.var (.i .i64) 8))) (.var (.i .i64) 2) (.app (.i .i64) 9028 2 [q_LMd_8, q_LMd_9, q_LMd_10, q_LMd_11, q_LMd_12, q_LMd_13, (.var (.i .i64) 6), (.var .x 7), (.var (.i .i64) 8), (.bin .add .i64 (.var (.i .i64) 9) (.lit (.i .i64) 1))])), (.ite (.not (.cmp .lss (.var (.i .i64) 9) (.var (.i .i64) 8))) (.var (.i .i64) 3) (.app (.i .i64) 9028 3 [q_LMd_8, q_LMd_9, q_LMd_10, q_LMd_11, q_LMd_12, q_LMd_13, (.var (.i .i64) 6), (.var .x 7), (.var (.i .i64) 8), (.bin .add .i64 (.var (.i .i64) 9) (.lit (.i .i64) 1))])), (.ite (.not (.cmp .lss (.var (.i .i64) 9) (.var (.i .i64) 8))) (.var (.i .i64) 4) (.app (.i .i64) 9028 4 [q_LMd_8, q_LMd_9, q_LMd_10, q_LMd_11, q_LMd_12, q_LMd_13, (.var (.i .i64) 6), (.var .x 7), (.var (.i .i64) 8), (.bin .add .i64 (.var (.i .i64) 9) (.lit (.i .i64) 1))])), (.ite (.not (.cmp .lss (.var (.i .i64) 9) (.var (.i .i64) 8))) (.var .x 5) (.app .x 9028 5 [q_LMd_8, q_LMd_9, q_LMd_10, q_LMd_11, q_LMd_12, q_LMd_13, (.var (.i .i64) 6), (.var .x 7), (.var (.i .i64) 8), (.bin .add .i64 (.var (.i .i64) 9) (.lit (.i .i64) 1))]))]
def leMd : LEnt := lbMd.fw (fnL lbMd cUn.l ob_LMd es_LMd postMd muMd)
theorem ev_LMd : evL Try.prog G0 (tabOf cUn.fs) (evFn Try.prog G0 (tabOf cUn.fs) (ltOf cUn.ls) 40 10) 40 (subL cUn.ls 28 pAr) leMd (bodyAt Try.prog 28 pAr) = some (ob_LMd, es_LMd) := by kernel_rfl

theorem cPok : cP.OK Try.prog G0 := Ctx.OK.addL (c := ⟨[e18, e25], []⟩) ((Ctx.OK.nil.addF ok25 rfl).addF ok18 rfl) okAr.1 rfl

theorem ok26 : EntryOK Try.prog G0 e26 ∧ PostOK e26 postAr := by
  refine cPok.nm.entryH mixed ev_26 (by kernel_rfl) _ rfl fun xs hf hp => ?_
  obtain ⟨l, hl, hF⟩ := ctx_P (l0 := cPn.l)
  show ∃ ρ : Nat → Int, _ ∧ ob_26.tt cPn.l.F ρ = true ∧ postAr xs (es_26.map (E.den cPn.l.F ρ))
  rw [hl]
  have F25 := FC (k := 100000025) rfl (hF e25.nm (by rfl) (by decide))
  have F9026 := FC (k := 100009026) rfl (hF leAr.nm.ent (by rfl) (by decide))
  replace hf : fits [.x, (.i .i64), (.i .i64), (.i .i64), (.i .i64), .x, (.i .i64), (.i .u8), (.i .i64), (.i .i64), (.i .i64)] xs := hf
  obtain ⟨S, xs0, hx0, hS, hf0⟩ := fits_cons hf
  obtain ⟨now, xs1, hx1, hnow, hf1⟩ := fits_cons hf0
  obtain ⟨bu, xs2, hx2, hbu, hf2⟩ := fits_cons hf1
  obtain ⟨le, xs3, hx3, hle, hf3⟩ := fits_cons hf2
  obtain ⟨mo, xs4, hx4, hmo, hf4⟩ := fits_cons hf3
  obtain ⟨T, xs5, hx5, hT, hf5⟩ := fits_cons hf4
  obtain ⟨c, xs6, hx6, hc, hf6⟩ := fits_cons hf5
  obtain ⟨ak, xs7, hx7, hak, hf7⟩ := fits_cons hf6
  obtain ⟨ai, xs8, hx8, hai, hf8⟩ := fits_cons hf7
  obtain ⟨ad, xs9, hx9, had, hf9⟩ := fits_cons hf8
  obtain ⟨an, xs10, hx10, han, hf10⟩ := fits_cons hf9
  have hxn := fits_nil hf10
  subst hxn hx10 hx9 hx8 hx7 hx6 hx5 hx4 hx3 hx2 hx1 hx0
  simp only [norm_i] at hnow hbu hle hmo hc hak hai had han
  obtain ⟨ρ, hρ, hd⟩ := solve (F := l.F) 11 defs_26 (by kernel_rfl) [S, now, bu, le, mo, T, c, ak, ai, ad, an]
  have hDf := dE_tt (by kernel_rfl) hd
  refine ⟨ρ, hρ, ?_⟩
  have r0 : ρ 0 = S := hρ 0 (by decide)
  have r1 : ρ 1 = now := hρ 1 (by decide)
  have r2 : ρ 2 = bu := hρ 2 (by decide)
  have r3 : ρ 3 = le := hρ 3 (by decide)
  have r4 : ρ 4 = mo := hρ 4 (by decide)
  have r5 : ρ 5 = T := hρ 5 (by decide)
  have r6 : ρ 6 = c := hρ 6 (by decide)
  have r7 : ρ 7 = ak := hρ 7 (by decide)
  have r8 : ρ 8 = ai := hρ 8 (by decide)
  have r9 : ρ 9 = ad := hρ 9 (by decide)
  have r10 : ρ 10 = an := hρ 10 (by decide)
  obtain ⟨v1, hv1, hd1, hn1⟩ := nmd hd 0 rfl
  obtain ⟨v2, hv2, hd2, hn2⟩ := nmd hd 1 rfl
  obtain ⟨v3, hv3, hd3, hn3⟩ := nmd hd 2 rfl
  obtain ⟨v4, hv4, hd4, hn4⟩ := nmd hd 3 rfl
  obtain ⟨v5, hv5, hd5, hn5⟩ := nmd hd 4 rfl
  obtain ⟨v6, hv6, hd6, hn6⟩ := nmd hd 5 rfl
  obtain ⟨v7, hv7, hd7, hn7⟩ := nmd hd 6 rfl
  obtain ⟨v8, hv8, hd8, hn8⟩ := nmd hd 7 rfl
  obtain ⟨v9, hv9, hd9, hn9⟩ := nmd hd 8 rfl
  obtain ⟨v10, hv10, hd10, hn10⟩ := nmd hd 9 rfl
  simp only [norm_i] at hn1 hn2 hn3 hn4 hn6 hn7 hn8 hn9
  simp (disch := omega) only [norm_i, a_26_0, F25, F9026, Ent.nm_fn, r0, r1, hnow, r2, hbu, r3, hle, r4, hmo, r5, r6, hc, r7, hak, r8, hai, r9, had, r10, han, hv1, hn1, hv2, hn2, hv3, hn3, hv4, hn4, hv5, hv6, hn6, hv7, hn7, hv8, hn8, hv9, hn9, hv10, ewA, ewL, preC, binI, dvI, shI, cmpB, env, bi, List.headD, List.tail, List.map, Nat.reduceAdd, ewR, ewB, ewM, if_true, if_false, implies_true, forall_const, ne_eq, reduceCtorEq, Int.reduceEq, Int.reduceLT, Int.reduceLE, Int.reduceToNat, Int.reduceAdd, Int.reduceSub, Int.reduceMul, Int.reduceNeg, Int.reduceBEq, Nat.reduceLT, Nat.reduceEqDiff] at hd1 hd2 hd3 hd4 hd5 hd6 hd7 hd8 hd9 hd10
  have hSS := And.intro (And.intro (And.intro (And.intro (And.intro F25 F9026) (And.intro r0 (And.intro r1 hnow))) (And.intro (And.intro r2 hbu) (And.intro r3 (And.intro hle r4)))) (And.intro (And.intro (And.intro hmo r5) (And.intro r6 (And.intro hc r7))) (And.intro (And.intro hak r8) (And.intro hai (And.intro r9 had))))) (And.intro (And.intro (And.intro (And.intro r10 han) (And.intro hv1 (And.intro hn1 hv2))) (And.intro (And.intro hn2 hv3) (And.intro hn3 (And.intro hv4 hn4)))) (And.intro (And.intro (And.intro hv5 hv6) (And.intro hn6 (And.intro hv7 hn7))) (And.intro (And.intro hv8 (And.intro hn8 hv9)) (And.intro hn9 (And.intro hv10 hDf)))))
  obtain ⟨d, B, hw⟩ := hp
  replace hw : WV S now bu le mo T c d B := hw
  have hct := hw.ct
  have ra := u8r hak
  have f1 : ∀ a b, e25.fn 0 [a, b] = a % b := fun _ _ => rfl
  have y1 : e25.pre [ai, c] := ⟨by show 0 < c; omega, by show c ≤ _; omega⟩
  have y2 : e25.pre [an, 20] := ⟨by show (0 : Int) < 20; decide, by show (20 : Int) ≤ _; decide⟩
  have y3 : e25.pre [ad, 3000] := ⟨by show (0 : Int) < 3000; decide, by show (3000 : Int) ≤ _; decide⟩
  have y4 : e25.pre [ad, 2147483648] := ⟨by show (0 : Int) < 2147483648; decide, by show (2147483648 : Int) ≤ _; decide⟩
  obtain rfl : ai % c = v1 := by
    rw [hd1, f1]
    have := Int.emod_nonneg ai (show c ≠ 0 by omega)
    have := Int.emod_lt_of_pos ai (show 0 < c by omega)
    exact (i64w (by omega) (by omega)).symm
  have g1 : 0 ≤ ai % c ∧ ai % c < c := ⟨Int.emod_nonneg ai (by omega), Int.emod_lt_of_pos ai (by omega)⟩
  obtain ⟨a, ha⟩ : ∃ a, a = ai % c := ⟨_, rfl⟩
  rw [← ha] at g1 hd1 hn1 hv1 hd5 hd6 hd7 hd8 hd9 hd10
  rw [f1] at hd1 hd2 hd3 hd4
  have e2 : v2 = an % 20 := by rw [hd2]; exact i64w (by omega) (by omega)
  have e3 : v3 = ad % 3000 := by rw [hd3]; exact i64w (by omega) (by omega)
  have e4 : v4 = ad % 2147483648 := by rw [hd4]; exact i64w (by omega) (by omega)
  have t8 : ak.tmod 8 = ak % 8 := Int.tmod_eq_emod_of_nonneg ra.1
  have hW : WE S now bu le mo T c := ⟨d, B, hw⟩
  subst e2 e3 e4
  have yk : (if ak % 8 = 3 then ad % 2147483648 else ad % 3000) < 2147483648 := by split <;> omega
  by_cases hk : ak % 8 = 3
  · have yA : leAr.ent.pre [S, now, bu, le, mo, T, c, a, 3, ad % 2147483648, 1, 0] := ⟨hW, g1, by show (0 : Int) ≤ 3 ∧ (3 : Int) ≤ 7; decide, by show 0 ≤ ad % 2147483648 ∧ ad % 2147483648 < 2147483648 ∧ (ad % 2147483648 ≤ 3000 ∨ (1 : Int) ≤ 1); omega, by show (0 : Int) ≤ 0; decide, by show (0 : Int) ≤ 1; decide, by show (1 : Int) ≤ 20; decide⟩
    simp (disch := omega) only [ewA, ewL, preC, binI, dvI, shI, cmpB, env, bi, List.headD, List.tail, List.map, Nat.reduceAdd, ewR, ewB, ewM, if_true, if_false, implies_true, forall_const, ne_eq, reduceCtorEq, Int.reduceEq, Int.reduceLT, Int.reduceLE, Int.reduceToNat, Int.reduceAdd, Int.reduceSub, Int.reduceMul, Int.reduceNeg, Int.reduceBEq, Nat.reduceLT, Nat.reduceEqDiff, t8, hk] at hd5 hd6 hd7 hd8 hd9 hd10
    have q := (PostOK.use (ks := [.x, (.i .i64), (.i .i64), (.i .i64), (.i .i64), .x, (.i .i64), (.i .i64), (.i .i64), (.i .i64), (.i .i64), (.i .i64)]) (os := [.x, (.i .i64), (.i .i64), (.i .i64), (.i .i64), .x]) (vs := [v5, v6, v7, v8, v9, v10]) okAr.2 rfl rfl ⟨hd5, hd6, hd7, hd8, hd9, hd10, trivial⟩) ⟨rfl, (by first | rfl | assumption | exact i64w (by omega) (by omega) | exact u8w (by omega) (by omega)), (by first | rfl | assumption | exact i64w (by omega) (by omega) | exact u8w (by omega) (by omega)), (by first | rfl | assumption | exact i64w (by omega) (by omega) | exact u8w (by omega) (by omega)), (by first | rfl | assumption | exact i64w (by omega) (by omega) | exact u8w (by omega) (by omega)), rfl, (by first | rfl | assumption | exact i64w (by omega) (by omega) | exact u8w (by omega) (by omega)), (by first | rfl | assumption | exact i64w (by omega) (by omega) | exact u8w (by omega) (by omega)), (by first | rfl | assumption | exact i64w (by omega) (by omega) | exact u8w (by omega) (by omega)), (by first | rfl | assumption | exact i64w (by omega) (by omega) | exact u8w (by omega) (by omega)), (by first | rfl | assumption | exact i64w (by omega) (by omega) | exact u8w (by omega) (by omega)), rfl, trivial⟩ yA
    refine ⟨?_, ?_⟩
    · simp (disch := omega) only [ob_26, q_26_0, ewA, ewL, preC, binI, dvI, shI, cmpB, env, bi, List.headD, List.tail, List.map, Nat.reduceAdd, ewR, ewB, ewM, if_true, if_false, implies_true, forall_const, ne_eq, reduceCtorEq, Int.reduceEq, Int.reduceLT, Int.reduceLE, Int.reduceToNat, Int.reduceAdd, Int.reduceSub, Int.reduceMul, Int.reduceNeg, Int.reduceBEq, Nat.reduceLT, Nat.reduceEqDiff, hSS, t8, hk, f1, y1, y2, y3, y4]
      subst ha
      repeat' (first | (with_reducible apply And.intro) | (with_reducible intro _))
      all_goals first | with_reducible assumption | trivial | omega | (split <;> omega)
    · simp (disch := omega) only [es_26, q_26_0, ewA, ewL, preC, binI, dvI, shI, cmpB, env, bi, List.headD, List.tail, List.map, Nat.reduceAdd, ewR, ewB, ewM, if_true, if_false, implies_true, forall_const, ne_eq, reduceCtorEq, Int.reduceEq, Int.reduceLT, Int.reduceLE, Int.reduceToNat, Int.reduceAdd, Int.reduceSub, Int.reduceMul, Int.reduceNeg, Int.reduceBEq, Nat.reduceLT, Nat.reduceEqDiff, hSS]
      exact q
  · have yA : leAr.ent.pre [S, now, bu, le, mo, T, c, a, ak % 8, ad % 3000, 1 + an % 20, 0] := ⟨hW, g1, by show 0 ≤ ak % 8 ∧ ak % 8 ≤ 7; omega, by show 0 ≤ ad % 3000 ∧ ad % 3000 < 2147483648 ∧ (ad % 3000 ≤ 3000 ∨ 1 + an % 20 ≤ 1); omega, by show (0 : Int) ≤ 0; decide, by show 0 ≤ 1 + an % 20; omega, by show 1 + an % 20 ≤ 20; omega⟩
    simp (disch := omega) only [ewA, ewL, preC, binI, dvI, shI, cmpB, env, bi, List.headD, List.tail, List.map, Nat.reduceAdd, ewR, ewB, ewM, if_true, if_false, implies_true, forall_const, ne_eq, reduceCtorEq, Int.reduceEq, Int.reduceLT, Int.reduceLE, Int.reduceToNat, Int.reduceAdd, Int.reduceSub, Int.reduceMul, Int.reduceNeg, Int.reduceBEq, Nat.reduceLT, Nat.reduceEqDiff, t8, hk] at hd5 hd6 hd7 hd8 hd9 hd10
    have q := (PostOK.use (ks := [.x, (.i .i64), (.i .i64), (.i .i64), (.i .i64), .x, (.i .i64), (.i .i64), (.i .i64), (.i .i64), (.i .i64), (.i .i64)]) (os := [.x, (.i .i64), (.i .i64), (.i .i64), (.i .i64), .x]) (vs := [v5, v6, v7, v8, v9, v10]) okAr.2 rfl rfl ⟨hd5, hd6, hd7, hd8, hd9, hd10, trivial⟩) ⟨rfl, (by first | rfl | assumption | exact i64w (by omega) (by omega) | exact u8w (by omega) (by omega)), (by first | rfl | assumption | exact i64w (by omega) (by omega) | exact u8w (by omega) (by omega)), (by first | rfl | assumption | exact i64w (by omega) (by omega) | exact u8w (by omega) (by omega)), (by first | rfl | assumption | exact i64w (by omega) (by omega) | exact u8w (by omega) (by omega)), rfl, (by first | rfl | assumption | exact i64w (by omega) (by omega) | exact u8w (by omega) (by omega)), (by first | rfl | assumption | exact i64w (by omega) (by omega) | exact u8w (by omega) (by omega)), (by first | rfl | assumption | exact i64w (by omega) (by omega) | exact u8w (by omega) (by omega)), (by first | rfl | assumption | exact i64w (by omega) (by omega) | exact u8w (by omega) (by omega)), (by first | rfl | assumption | exact i64w (by omega) (by omega) | exact u8w (by omega) (by omega)), rfl, trivial⟩ yA
    refine ⟨?_, ?_⟩
    · simp (disch := omega) only [ob_26, q_26_0, ewA, ewL, preC, binI, dvI, shI, cmpB, env, bi, List.headD, List.tail, List.map, Nat.reduceAdd, ewR, ewB, ewM, if_true, if_false, implies_true, forall_const, ne_eq, reduceCtorEq, Int.reduceEq, Int.reduceLT, Int.reduceLE, Int.reduceToNat, Int.reduceAdd, Int.reduceSub, Int.reduceMul, Int.reduceNeg, Int.reduceBEq, Nat.reduceLT, Nat.reduceEqDiff, hSS, t8, hk, f1, y1, y2, y3, y4]
      subst ha
      repeat' (first | (with_reducible apply And.intro) | (with_reducible intro _))
      all_goals first | with_reducible assumption | trivial | omega | (split <;> omega)
    · simp (disch := omega) only [es_26, q_26_0, ewA, ewL, preC, binI, dvI, shI, cmpB, env, bi, List.headD, List.tail, List.map, Nat.reduceAdd, ewR, ewB, ewM, if_true, if_false, implies_true, forall_const, ne_eq, reduceCtorEq, Int.reduceEq, Int.reduceLT, Int.reduceLE, Int.reduceToNat, Int.reduceAdd, Int.reduceSub, Int.reduceMul, Int.reduceNeg, Int.reduceBEq, Nat.reduceLT, Nat.reduceEqDiff, hSS]
      exact q


theorem okM1 : ItemOK Try.prog G0 28 pTm leTm ∧ PostOK leTm.ent postTm := by
  refine cTok.nm.loopH mixed rfl ⟨_, _, _, Try.func28, rfl, rfl⟩ ev_LTm (by kernel_rfl) _ rfl fun xs hf hp φ hφ => ?_
  obtain ⟨l, hl, hS, hF⟩ := self_H lbTm φ muTm (muTm xs) cTn.l (by decide)
  show ∃ ρ : Nat → Int, _ ∧ ob_LTm.tt (Tabs.F (enH lbTm φ muTm (muTm xs) :: cTn.l)) ρ = true ∧ postTm xs (es_LTm.map (E.den (Tabs.F (enH lbTm φ muTm (muTm xs) :: cTn.l)) ρ))
  rw [hl]
  replace hφ : ∀ ys, fits [.x, (.i .i64), (.i .i64), (.i .i64), (.i .i64), .x, (.i .i64), (.i .i64)] ys → lbTm.ent.pre ys → muTm ys < muTm xs → postTm ys (outsE φ ys 0 lbTm.ent.oks) := hφ
  have F9128 := FC (k := 9128) rfl hS
  have F15 := FC (k := 100000015) rfl (hF e15.nm (by rfl) (by decide) (by decide))
  replace hf : fits [.x, (.i .i64), (.i .i64), (.i .i64), (.i .i64), .x, (.i .i64), (.i .i64)] xs := hf
  obtain ⟨S, xs0, hx0, hS, hf0⟩ := fits_cons hf
  obtain ⟨now, xs1, hx1, hnow, hf1⟩ := fits_cons hf0
  obtain ⟨bu, xs2, hx2, hbu, hf2⟩ := fits_cons hf1
  obtain ⟨le, xs3, hx3, hle, hf3⟩ := fits_cons hf2
  obtain ⟨mo, xs4, hx4, hmo, hf4⟩ := fits_cons hf3
  obtain ⟨T, xs5, hx5, hT, hf5⟩ := fits_cons hf4
  obtain ⟨n, xs6, hx6, hn, hf6⟩ := fits_cons hf5
  obtain ⟨i, xs7, hx7, hi, hf7⟩ := fits_cons hf6
  have hxn := fits_nil hf7
  subst hxn hx7 hx6 hx5 hx4 hx3 hx2 hx1 hx0
  simp only [norm_i] at hnow hbu hle hmo hn hi
  obtain ⟨ρ, hρ, hd⟩ := solve (F := l.F) 8 defs_LTm (by kernel_rfl) [S, now, bu, le, mo, T, n, i]
  have hDf := dE_tt (by kernel_rfl) hd
  refine ⟨ρ, hρ, ?_⟩
  have r0 : ρ 0 = S := hρ 0 (by decide)
  have r1 : ρ 1 = now := hρ 1 (by decide)
  have r2 : ρ 2 = bu := hρ 2 (by decide)
  have r3 : ρ 3 = le := hρ 3 (by decide)
  have r4 : ρ 4 = mo := hρ 4 (by decide)
  have r5 : ρ 5 = T := hρ 5 (by decide)
  have r6 : ρ 6 = n := hρ 6 (by decide)
  have r7 : ρ 7 = i := hρ 7 (by decide)
  obtain ⟨v1, hv1, hd1, hn1⟩ := nmd hd 0 rfl
  obtain ⟨v2, hv2, hd2, hn2⟩ := nmd hd 1 rfl
  obtain ⟨v3, hv3, hd3, hn3⟩ := nmd hd 2 rfl
  obtain ⟨v4, hv4, hd4, hn4⟩ := nmd hd 3 rfl
  obtain ⟨v5, hv5, hd5, hn5⟩ := nmd hd 4 rfl
  obtain ⟨v6, hv6, hd6, hn6⟩ := nmd hd 5 rfl
  obtain ⟨v7, hv7, hd7, hn7⟩ := nmd hd 6 rfl
  simp only [norm_i] at hn2 hn3 hn4 hn5 hn7
  simp (disch := omega) only [norm_i, a_LTm_0, F15, Ent.nm_fn, r0, r1, hnow, r2, hbu, r3, hle, r4, hmo, r5, r6, hn, r7, hi, hv1, hv2, hn2, hv3, hn3, hv4, hn4, hv5, hn5, hv6, hv7, hn7, ewA, ewL, preC, binI, dvI, shI, cmpB, env, bi, List.headD, List.tail, List.map, Nat.reduceAdd, ewR, ewB, ewM, if_true, if_false, implies_true, forall_const, ne_eq, reduceCtorEq, Int.reduceEq, Int.reduceLT, Int.reduceLE, Int.reduceToNat, Int.reduceAdd, Int.reduceSub, Int.reduceMul, Int.reduceNeg, Int.reduceBEq, Nat.reduceLT, Nat.reduceEqDiff] at hd1 hd2 hd3 hd4 hd5 hd6 hd7
  have hSS := And.intro (And.intro (And.intro (And.intro F9128 (And.intro F15 r0)) (And.intro (And.intro r1 hnow) (And.intro r2 hbu))) (And.intro (And.intro r3 (And.intro hle r4)) (And.intro (And.intro hmo r5) (And.intro r6 hn)))) (And.intro (And.intro (And.intro r7 (And.intro hi hv1)) (And.intro (And.intro hv2 hn2) (And.intro hv3 hn3))) (And.intro (And.intro (And.intro hv4 hn4) (And.intro hv5 hn5)) (And.intro (And.intro hv6 hv7) (And.intro hn7 hDf))))
  obtain ⟨⟨c, d, B, hw⟩, p1, p2, p3, p4⟩ := hp
  replace hw : WV S now bu le mo T c d B := hw
  simp only [ewA, ewL, preC, binI, dvI, shI, cmpB, env, bi, List.headD, List.tail, List.map, Nat.reduceAdd] at p1 p2 p3 p4
  have hbg := hw.bg
  have htm := hw.tm
  have hcp := hw.cp
  have y1 : e15.pre [S, now, bu, le, mo, T] := hw.wx
  by_cases hi : i < n
  · obtain ⟨D, q1, q2, q3, q4, q5, q6, q7, q8, q9, _⟩ := hw.tick (by omega) ⟨hd1, hd2, hd3, hd4, hd5, hd6, hd7, trivial⟩
    have hw' : WV v1 v2 v3 v4 v5 v6 c d (B ++ D) := q1
    have hcp' := hw'.cp
    have hnw : now ≤ v2 ∧ v2 ≤ now + 1 := by rw [q3]; unfold nowT; split <;> omega
    have yp : lbTm.ent.pre [v1, v2, v3, v4, v5, v6, n, i + 1] := ⟨⟨c, d, _, hw'⟩, by show v5 + 4096 * (n - (i + 1)) ≤ _; omega, by show 0 ≤ i + 1; omega, by show i + 1 ≤ n; omega, p4⟩
    have ym : muTm [v1, v2, v3, v4, v5, v6, n, i + 1] < muTm [S, now, bu, le, mo, T, n, i] := by show (n - (i + 1)).toNat < (n - i).toNat; omega
    obtain ⟨i1, i2, i3, i4⟩ := hφ [v1, v2, v3, v4, v5, v6, n, i + 1] ⟨rfl, hn2, hn3, hn4, hn5, rfl, hn, i64w (by omega) (by omega), trivial⟩ yp ym
    refine ⟨?_, ?_⟩
    · simp (disch := omega) only [ob_LTm, ewA, ewL, preC, binI, dvI, shI, cmpB, env, bi, List.headD, List.tail, List.map, Nat.reduceAdd, ewR, ewB, ewM, if_true, if_false, implies_true, forall_const, ne_eq, reduceCtorEq, Int.reduceEq, Int.reduceLT, Int.reduceLE, Int.reduceToNat, Int.reduceAdd, Int.reduceSub, Int.reduceMul, Int.reduceNeg, Int.reduceBEq, Nat.reduceLT, Nat.reduceEqDiff, hSS, hi, y1]
      repeat' (first | (with_reducible apply And.intro) | (with_reducible intro _))
      all_goals first | with_reducible assumption | trivial | omega | (split <;> omega)
    · simp (disch := omega) only [es_LTm, ewA, ewL, preC, binI, dvI, shI, cmpB, env, bi, List.headD, List.tail, List.map, Nat.reduceAdd, ewR, ewB, ewM, if_true, if_false, implies_true, forall_const, ne_eq, reduceCtorEq, Int.reduceEq, Int.reduceLT, Int.reduceLE, Int.reduceToNat, Int.reduceAdd, Int.reduceSub, Int.reduceMul, Int.reduceNeg, Int.reduceBEq, Nat.reduceLT, Nat.reduceEqDiff, hSS, hi]
      refine ⟨?_, ?_, i3.trans q4, ?_⟩
      · have e : (((dc v6).length : Nat) : Int) = (((dc T).length : Nat) : Int) := by omega
        replace i1 : WE _ _ _ _ _ _ (((dc v6).length : Nat) : Int) := i1
        rw [e] at i1; exact i1
      · obtain ⟨a1, a2⟩ := i2
        replace a1 : v2 ≤ _ := a1
        replace a2 : _ ≤ v2 + (n - (i + 1)) := a2
        exact ⟨Int.le_trans hnw.1 a1, Int.le_trans a2 (by show v2 + (n - (i + 1)) ≤ now + (n - i); omega)⟩
      · obtain ⟨a1, a2⟩ := i4
        replace a1 : v5 ≤ _ := a1
        replace a2 : _ ≤ v5 + 4096 * (n - (i + 1)) := a2
        exact ⟨Int.le_trans (by show mo ≤ v5; omega) a1, Int.le_trans a2 (by show v5 + 4096 * (n - (i + 1)) ≤ mo + 4096 * (n - i); omega)⟩
  · refine ⟨?_, ?_⟩
    · simp (disch := omega) only [ob_LTm, ewA, ewL, preC, binI, dvI, shI, cmpB, env, bi, List.headD, List.tail, List.map, Nat.reduceAdd, ewR, ewB, ewM, if_true, if_false, implies_true, forall_const, ne_eq, reduceCtorEq, Int.reduceEq, Int.reduceLT, Int.reduceLE, Int.reduceToNat, Int.reduceAdd, Int.reduceSub, Int.reduceMul, Int.reduceNeg, Int.reduceBEq, Nat.reduceLT, Nat.reduceEqDiff, hSS, hi]
    · simp (disch := omega) only [es_LTm, ewA, ewL, preC, binI, dvI, shI, cmpB, env, bi, List.headD, List.tail, List.map, Nat.reduceAdd, ewR, ewB, ewM, if_true, if_false, implies_true, forall_const, ne_eq, reduceCtorEq, Int.reduceEq, Int.reduceLT, Int.reduceLE, Int.reduceToNat, Int.reduceAdd, Int.reduceSub, Int.reduceMul, Int.reduceNeg, Int.reduceBEq, Nat.reduceLT, Nat.reduceEqDiff, hSS, hi]
      exact ⟨⟨d, B, by rw [← hcp] at hw; exact hw⟩, ⟨Int.le_refl _, by show now ≤ now + (n - i); omega⟩, rfl, Int.le_refl _, by show mo ≤ mo + 4096 * (n - i); omega⟩

theorem cUok : cU.OK Try.prog G0 := Ctx.OK.addL (c := ⟨[e24, e25, e17, e26], []⟩) ((((Ctx.OK.nil.addF ok26.1 rfl).addF ok17 rfl).addF ok25 rfl).addF ok24 rfl) okM1.1 rfl

set_option maxHeartbeats 4000000 in
theorem okM2 : ItemOK Try.prog G0 28 pAr leMd ∧ PostOK leMd.ent postMd := by
  refine cUok.nm.loopH mixed rfl ⟨_, _, _, Try.func28, rfl, rfl⟩ ev_LMd (by kernel_rfl) _ rfl fun xs hf hp φ hφ => ?_
  obtain ⟨l, hl, hS, hF⟩ := self_H lbMd φ muMd (muMd xs) cUn.l (by decide)
  show ∃ ρ : Nat → Int, _ ∧ ob_LMd.tt (Tabs.F (enH lbMd φ muMd (muMd xs) :: cUn.l)) ρ = true ∧ postMd xs (es_LMd.map (E.den (Tabs.F (enH lbMd φ muMd (muMd xs) :: cUn.l)) ρ))
  rw [hl]
  replace hφ : ∀ ys, fits [.x, (.i .i64), (.i .i64), (.i .i64), (.i .i64), .x, (.i .i64), .x, (.i .i64), (.i .i64)] ys → lbMd.ent.pre ys → muMd ys < muMd xs → postMd ys (outsE φ ys 0 lbMd.ent.oks) := hφ
  have F9028 := FC (k := 9028) rfl hS
  have F17 := FC (k := 100000017) rfl (hF e17.nm (by rfl) (by decide) (by decide))
  have F24 := FC (k := 100000024) rfl (hF e24.nm (by rfl) (by decide) (by decide))
  have F25 := FC (k := 100000025) rfl (hF e25.nm (by rfl) (by decide) (by decide))
  have F26 := FC (k := 100000026) rfl (hF e26.nm (by rfl) (by decide) (by decide))
  have F9128 := FC (k := 100009128) rfl (hF leTm.nm.ent (by rfl) (by decide) (by decide))
  replace hf : fits [.x, (.i .i64), (.i .i64), (.i .i64), (.i .i64), .x, (.i .i64), .x, (.i .i64), (.i .i64)] xs := hf
  obtain ⟨S, xs0, hx0, hS, hf0⟩ := fits_cons hf
  obtain ⟨now, xs1, hx1, hnow, hf1⟩ := fits_cons hf0
  obtain ⟨bu, xs2, hx2, hbu, hf2⟩ := fits_cons hf1
  obtain ⟨le, xs3, hx3, hle, hf3⟩ := fits_cons hf2
  obtain ⟨mo, xs4, hx4, hmo, hf4⟩ := fits_cons hf3
  obtain ⟨T, xs5, hx5, hT, hf5⟩ := fits_cons hf4
  obtain ⟨c, xs6, hx6, hc, hf6⟩ := fits_cons hf5
  obtain ⟨A, xs7, hx7, hA, hf7⟩ := fits_cons hf6
  obtain ⟨n, xs8, hx8, hn, hf8⟩ := fits_cons hf7
  obtain ⟨i, xs9, hx9, hi, hf9⟩ := fits_cons hf8
  have hxn := fits_nil hf9
  subst hxn hx9 hx8 hx7 hx6 hx5 hx4 hx3 hx2 hx1 hx0
  simp only [norm_i] at hnow hbu hle hmo hc hn hi
  obtain ⟨ρ, hρ, hd⟩ := solve (F := l.F) 10 defs_LMd (by kernel_rfl) [S, now, bu, le, mo, T, c, A, n, i]
  have hDf := dE_tt (by kernel_rfl) hd
  refine ⟨ρ, hρ, ?_⟩
  have r0 : ρ 0 = S := hρ 0 (by decide)
  have r1 : ρ 1 = now := hρ 1 (by decide)
  have r2 : ρ 2 = bu := hρ 2 (by decide)
  have r3 : ρ 3 = le := hρ 3 (by decide)
  have r4 : ρ 4 = mo := hρ 4 (by decide)
  have r5 : ρ 5 = T := hρ 5 (by decide)
  have r6 : ρ 6 = c := hρ 6 (by decide)
  have r7 : ρ 7 = A := hρ 7 (by decide)
  have r8 : ρ 8 = n := hρ 8 (by decide)
  have r9 : ρ 9 = i := hρ 9 (by decide)
  obtain ⟨v1, hv1, hd1, hn1⟩ := nmd hd 0 rfl
  obtain ⟨v2, hv2, hd2, hn2⟩ := nmd hd 1 rfl
  obtain ⟨v3, hv3, hd3, hn3⟩ := nmd hd 2 rfl
  obtain ⟨v4, hv4, hd4, hn4⟩ := nmd hd 3 rfl
  obtain ⟨v5, hv5, hd5, hn5⟩ := nmd hd 4 rfl
  obtain ⟨v6, hv6, hd6, hn6⟩ := nmd hd 5 rfl
  obtain ⟨v7, hv7, hd7, hn7⟩ := nmd hd 6 rfl
  obtain ⟨v8, hv8, hd8, hn8⟩ := nmd hd 7 rfl
  obtain ⟨v9, hv9, hd9, hn9⟩ := nmd hd 8 rfl
  obtain ⟨v10, hv10, hd10, hn10⟩ := nmd hd 9 rfl
  obtain ⟨v11, hv11, hd11, hn11⟩ := nmd hd 10 rfl
  obtain ⟨v12, hv12, hd12, hn12⟩ := nmd hd 11 rfl
  obtain ⟨v13, hv13, hd13, hn13⟩ := nmd hd 12 rfl
  obtain ⟨v14, hv14, hd14, hn14⟩ := nmd hd 13 rfl
  obtain ⟨v15, hv15, hd15, hn15⟩ := nmd hd 14 rfl
  obtain ⟨v16, hv16, hd16, hn16⟩ := nmd hd 15 rfl
  obtain ⟨v17, hv17, hd17, hn17⟩ := nmd hd 16 rfl
  obtain ⟨v18, hv18, hd18, hn18⟩ := nmd hd 17 rfl
  obtain ⟨v19, hv19, hd19, hn19⟩ := nmd hd 18 rfl
  obtain ⟨v20, hv20, hd20, hn20⟩ := nmd hd 19 rfl
  obtain ⟨v21, hv21, hd21, hn21⟩ := nmd hd 20 rfl
  obtain ⟨v22, hv22, hd22, hn22⟩ := nmd hd 21 rfl
  obtain ⟨v23, hv23, hd23, hn23⟩ := nmd hd 22 rfl
  obtain ⟨v24, hv24, hd24, hn24⟩ := nmd hd 23 rfl
  obtain ⟨v25, hv25, hd25, hn25⟩ := nmd hd 24 rfl
  obtain ⟨v26, hv26, hd26, hn26⟩ := nmd hd 25 rfl
  obtain ⟨v27, hv27, hd27, hn27⟩ := nmd hd 26 rfl
  obtain ⟨v28, hv28, hd28, hn28⟩ := nmd hd 27 rfl
  obtain ⟨v29, hv29, hd29, hn29⟩ := nmd hd 28 rfl
  obtain ⟨v30, hv30, hd30, hn30⟩ := nmd hd 29 rfl
  simp only [norm_i] at hn1 hn3 hn4 hn5 hn6 hn8 hn9 hn11 hn12 hn13 hn14 hn16 hn18 hn19 hn20 hn21 hn24 hn26 hn27 hn28 hn29
  simp (disch := omega) only [norm_i, a_LMd_0, a_LMd_1, a_LMd_2, a_LMd_3, F17, F24, F25, F26, F9128, Ent.nm_fn, r0, r1, hnow, r2, hbu, r3, hle, r4, hmo, r5, r6, hc, r7, r8, hn, r9, hi, hv1, hn1, hv2, hv3, hn3, hv4, hn4, hv5, hn5, hv6, hn6, hv7, hv8, hn8, hv9, hn9, hv10, hv11, hn11, hv12, hn12, hv13, hn13, hv14, hn14, hv15, hv16, hn16, hv17, hv18, hn18, hv19, hn19, hv20, hn20, hv21, hn21, hv22, hv23, hv24, hn24, hv25, hv26, hn26, hv27, hn27, hv28, hn28, hv29, hn29, hv30, ewA, ewL, preC, binI, dvI, shI, cmpB, env, bi, List.headD, List.tail, List.map, Nat.reduceAdd, ewR, ewB, ewM, if_true, if_false, implies_true, forall_const, ne_eq, reduceCtorEq, Int.reduceEq, Int.reduceLT, Int.reduceLE, Int.reduceToNat, Int.reduceAdd, Int.reduceSub, Int.reduceMul, Int.reduceNeg, Int.reduceBEq, Nat.reduceLT, Nat.reduceEqDiff] at hd1 hd2 hd3 hd4 hd5 hd6 hd7 hd8 hd9 hd10 hd11 hd12 hd13 hd14 hd15 hd16 hd17 hd18 hd19 hd20 hd21 hd22 hd23 hd24 hd25 hd26 hd27 hd28 hd29 hd30
  have hSS := And.intro (And.intro (And.intro (And.intro (And.intro (And.intro F9028 F17) (And.intro F24 F25)) (And.intro (And.intro F26 F9128) (And.intro r0 (And.intro r1 hnow)))) (And.intro (And.intro (And.intro r2 hbu) (And.intro r3 hle)) (And.intro (And.intro r4 hmo) (And.intro r5 (And.intro r6 hc))))) (And.intro (And.intro (And.intro (And.intro r7 r8) (And.intro hn r9)) (And.intro (And.intro hi hv1) (And.intro hn1 (And.intro hv2 hv3)))) (And.intro (And.intro (And.intro hn3 hv4) (And.intro hn4 (And.intro hv5 hn5))) (And.intro (And.intro hv6 hn6) (And.intro hv7 (And.intro hv8 hn8)))))) (And.intro (And.intro (And.intro (And.intro (And.intro hv9 hn9) (And.intro hv10 hv11)) (And.intro (And.intro hn11 hv12) (And.intro hn12 (And.intro hv13 hn13)))) (And.intro (And.intro (And.intro hv14 hn14) (And.intro hv15 (And.intro hv16 hn16))) (And.intro (And.intro hv17 hv18) (And.intro hn18 (And.intro hv19 hn19))))) (And.intro (And.intro (And.intro (And.intro hv20 hn20) (And.intro hv21 hn21)) (And.intro (And.intro hv22 hv23) (And.intro hv24 (And.intro hn24 hv25)))) (And.intro (And.intro (And.intro hv26 hn26) (And.intro hv27 (And.intro hn27 hv28))) (And.intro (And.intro hn28 hv29) (And.intro hn29 (And.intro hv30 hDf))))))
  obtain ⟨⟨d, B, hw⟩, p1, p2, p3, p4, p5, p6⟩ := hp
  replace hw : WV S now bu le mo T c d B := hw
  replace p1 : rowsOK actK (dc A) := p1
  simp only [ewA, ewL, preC, binI, dvI, shI, cmpB, env, bi, List.headD, List.tail, List.map, Nat.reduceAdd] at p2 p3 p4 p5 p6
  have hbg := hw.bg
  have htm := hw.tm
  have hct := hw.ct
  by_cases hi : i < n
  · have fin : ∀ S' now' bu' le' mo' T' : Int, IntKind.i64.wrap now' = now' → IntKind.i64.wrap bu' = bu' → IntKind.i64.wrap le' = le' → IntKind.i64.wrap mo' = mo' → WE S' now' bu' le' mo' T' c → (now ≤ now' ∧ now' ≤ now + 300) → bu' = bu → (mo ≤ mo' ∧ mo' ≤ mo + 1228800) →
        (lbMd.ent.pre [S', now', bu', le', mo', T', c, A, n, i + 1] ∧ muMd [S', now', bu', le', mo', T', c, A, n, i + 1] < muMd [S, now, bu, le, mo, T, c, A, n, i]) ∧ postMd [S, now, bu, le, mo, T, c, A, n, i] (outsE φ [S', now', bu', le', mo', T', c, A, n, i + 1] 0 lbMd.ent.oks) := by
      intro S' now' bu' le' mo' T' w1 w2 w3 w4 hE h1 h2 h3
      have yp : lbMd.ent.pre [S', now', bu', le', mo', T', c, A, n, i + 1] := ⟨hE, p1, p2, by show mo' + 1228800 * (n - (i + 1)) ≤ _; omega, by show 0 ≤ i + 1; omega, by show i + 1 ≤ n; omega, p6⟩
      have ym : muMd [S', now', bu', le', mo', T', c, A, n, i + 1] < muMd [S, now, bu, le, mo, T, c, A, n, i] := by show (n - (i + 1)).toNat < (n - i).toNat; omega
      obtain ⟨i1, i2, i3, i4⟩ := hφ [S', now', bu', le', mo', T', c, A, n, i + 1] ⟨rfl, w1, w2, w3, w4, rfl, hc, rfl, hn, i64w (by omega) (by omega), trivial⟩ yp ym
      refine ⟨⟨yp, ym⟩, i1, ?_, i3.trans h2, ?_⟩
      · obtain ⟨a1, a2⟩ := i2
        replace a1 : now' ≤ _ := a1
        replace a2 : _ ≤ now' + 300 * (n - (i + 1)) := a2
        exact ⟨Int.le_trans h1.1 a1, Int.le_trans a2 (by show now' + 300 * (n - (i + 1)) ≤ now + 300 * (n - i); omega)⟩
      · obtain ⟨a1, a2⟩ := i4
        replace a1 : mo' ≤ _ := a1
        replace a2 : _ ≤ mo' + 1228800 * (n - (i + 1)) := a2
        exact ⟨Int.le_trans h3.1 a1, Int.le_trans a2 (by show mo' + 1228800 * (n - (i + 1)) ≤ mo + 1228800 * (n - i); omega)⟩
    obtain ⟨r, er, hr, _⟩ := row_at p1 p4 (by omega)
    obtain ⟨k, r1, rfl, hk, hr⟩ := fits_cons hr
    obtain ⟨a, r2, rfl, ha, hr⟩ := fits_cons hr
    obtain ⟨b, r3, rfl, hb, hr⟩ := fits_cons hr
    obtain ⟨m, r4, rfl, hm, hr⟩ := fits_cons hr
    obtain rfl := fits_nil hr
    simp only [norm_i] at hk ha hb hm
    have rk := u8r hk
    have t8 : k.tmod 8 = k % 8 := Int.tmod_eq_emod_of_nonneg rk.1
    have f1 : ∀ a b, e25.fn 0 [a, b] = a % b := fun _ _ => rfl
    have y1 : e25.pre [a, c] := ⟨by show 0 < c; omega, by show c ≤ _; omega⟩
    have y2 : e25.pre [m, 300] := ⟨by show (0 : Int) < 300; decide, by show (300 : Int) ≤ _; decide⟩
    have y3 : e25.pre [m, 50] := ⟨by show (0 : Int) < 50; decide, by show (50 : Int) ≤ _; decide⟩
    have g1 : 0 ≤ a % c ∧ a % c < c := ⟨Int.emod_nonneg a (by omega), Int.emod_lt_of_pos a (by omega)⟩
    have wa : IntKind.i64.wrap (a % c) = a % c := i64w (by omega) (by omega)
    have w5 : IntKind.i64.wrap (1 + m % 300) = 1 + m % 300 := i64w (by omega) (by omega)
    simp (disch := omega) only [ewA, ewL, preC, binI, dvI, shI, cmpB, env, bi, List.headD, List.tail, List.map, Nat.reduceAdd, ewR, ewB, ewM, if_true, if_false, implies_true, forall_const, ne_eq, reduceCtorEq, Int.reduceEq, Int.reduceLT, Int.reduceLE, Int.reduceToNat, Int.reduceAdd, Int.reduceSub, Int.reduceMul, Int.reduceNeg, Int.reduceBEq, Nat.reduceLT, Nat.reduceEqDiff, er, ha, hb, hm, hk, f1, wa, w5] at hd1 hd2 hd3 hd4 hd5 hd6 hd7 hd8 hd9 hd10 hd11 hd12 hd13 hd14 hd15 hd16 hd17 hd18 hd19 hd20 hd21 hd22 hd23 hd24 hd25 hd26 hd27 hd28 hd29 hd30
    subst hd1 hd9 hd16
    simp only [w5] at hd10 hd11 hd12 hd13 hd14 hd15
    have y4 : e24.pre [S, now, bu, le, mo, T, a % c] := hw.wx1 _
    have y5 : e17.pre [S, now, bu, le, mo, T, m % 50] := hw.wx1 _
    have y6 : e26.pre [S, now, bu, le, mo, T, c, k, a, b, m] := ⟨d, B, hw⟩
    have y7 : leTm.ent.pre [S, now, bu, le, mo, T, 1 + m % 300, 0] := ⟨⟨c, d, B, hw⟩, by show mo + 4096 * (1 + m % 300 - 0) ≤ _; omega, by show (0 : Int) ≤ 0; decide, by show 0 ≤ 1 + m % 300; omega, by show 1 + m % 300 ≤ 300; omega⟩
    by_cases c1 : k % 8 = 4 ∨ k % 8 = 7
    · obtain ⟨q1, q2, q3, q4, _⟩ := hw.can g1 ⟨hd2, hd3, hd4, hd5, hd6, hd7, hd8, trivial⟩
      obtain ⟨⟨f2, f3⟩, f4⟩ := fin _ _ _ _ _ _ hn3 hn4 hn5 hn6 ⟨_, _, q1⟩ (by omega) q3 (by omega)
      refine ⟨?_, ?_⟩
      · rcases c1 with c1 | c1
        all_goals simp (disch := omega) only [ob_LMd, q_LMd_0, q_LMd_1, q_LMd_2, q_LMd_3, q_LMd_4, q_LMd_5, q_LMd_6, q_LMd_7, q_LMd_8, q_LMd_9, q_LMd_10, q_LMd_11, q_LMd_12, q_LMd_13, ewA, ewL, preC, binI, dvI, shI, cmpB, env, bi, List.headD, List.tail, List.map, Nat.reduceAdd, ewR, ewB, ewM, if_true, if_false, implies_true, forall_const, ne_eq, reduceCtorEq, Int.reduceEq, Int.reduceLT, Int.reduceLE, Int.reduceToNat, Int.reduceAdd, Int.reduceSub, Int.reduceMul, Int.reduceNeg, Int.reduceBEq, Nat.reduceLT, Nat.reduceEqDiff, hSS, hi, er, hk, ha, hb, hm, t8, c1, f1, wa, y1, y4, f2, f3]
        repeat' (first | (with_reducible apply And.intro) | (with_reducible intro _))
        all_goals first | with_reducible assumption | trivial | omega | (split <;> omega)
      · rcases c1 with c1 | c1
        all_goals simp (disch := omega) only [es_LMd, q_LMd_0, q_LMd_1, q_LMd_2, q_LMd_3, q_LMd_4, q_LMd_5, q_LMd_6, q_LMd_7, q_LMd_8, q_LMd_9, q_LMd_10, q_LMd_11, q_LMd_12, q_LMd_13, ewA, ewL, preC, binI, dvI, shI, cmpB, env, bi, List.headD, List.tail, List.map, Nat.reduceAdd, ewR, ewB, ewM, if_true, if_false, implies_true, forall_const, ne_eq, reduceCtorEq, Int.reduceEq, Int.reduceLT, Int.reduceLE, Int.reduceToNat, Int.reduceAdd, Int.reduceSub, Int.reduceMul, Int.reduceNeg, Int.reduceBEq, Nat.reduceLT, Nat.reduceEqDiff, hSS, hi, er, hk, t8, c1]
        all_goals exact f4
    · by_cases c2 : k % 8 = 5
      · have q := (PostOK.use (ks := [.x, (.i .i64), (.i .i64), (.i .i64), (.i .i64), .x, (.i .i64), (.i .i64)]) (os := [.x, (.i .i64), (.i .i64), (.i .i64), (.i .i64), .x]) (vs := [v10, v11, v12, v13, v14, v15]) okM1.2 rfl rfl ⟨hd10, hd11, hd12, hd13, hd14, hd15, trivial⟩) ⟨rfl, hnow, hbu, hle, hmo, rfl, w5, rfl, trivial⟩ y7
        obtain ⟨q1, q2, q3, q4⟩ := q
        replace q1 : WE v10 v11 v12 v13 v14 v15 ((dc T).length : Nat) := q1
        rw [hw.cp] at q1
        replace q2 : now ≤ v11 ∧ v11 ≤ now + (1 + m % 300 - 0) := q2
        replace q4 : mo ≤ v14 ∧ v14 ≤ mo + 4096 * (1 + m % 300 - 0) := q4
        obtain ⟨⟨f2, f3⟩, f4⟩ := fin _ _ _ _ _ _ hn11 hn12 hn13 hn14 q1 (by omega) q3 (by omega)
        refine ⟨?_, ?_⟩
        · simp (disch := omega) only [ob_LMd, q_LMd_0, q_LMd_1, q_LMd_2, q_LMd_3, q_LMd_4, q_LMd_5, q_LMd_6, q_LMd_7, q_LMd_8, q_LMd_9, q_LMd_10, q_LMd_11, q_LMd_12, q_LMd_13, ewA, ewL, preC, binI, dvI, shI, cmpB, env, bi, List.headD, List.tail, List.map, Nat.reduceAdd, ewR, ewB, ewM, if_true, if_false, implies_true, forall_const, ne_eq, reduceCtorEq, Int.reduceEq, Int.reduceLT, Int.reduceLE, Int.reduceToNat, Int.reduceAdd, Int.reduceSub, Int.reduceMul, Int.reduceNeg, Int.reduceBEq, Nat.reduceLT, Nat.reduceEqDiff, hSS, hi, er, hk, ha, hb, hm, t8, c2, f1, w5, y2, y7, f2, f3]
          repeat' (first | (with_reducible apply And.intro) | (with_reducible intro _))
          all_goals first | with_reducible assumption | trivial | omega | (split <;> omega)
        · simp (disch := omega) only [es_LMd, q_LMd_0, q_LMd_1, q_LMd_2, q_LMd_3, q_LMd_4, q_LMd_5, q_LMd_6, q_LMd_7, q_LMd_8, q_LMd_9, q_LMd_10, q_LMd_11, q_LMd_12, q_LMd_13, ewA, ewL, preC, binI, dvI, shI, cmpB, env, bi, List.headD, List.tail, List.map, Nat.reduceAdd, ewR, ewB, ewM, if_true, if_false, implies_true, forall_const, ne_eq, reduceCtorEq, Int.reduceEq, Int.reduceLT, Int.reduceLE, Int.reduceToNat, Int.reduceAdd, Int.reduceSub, Int.reduceMul, Int.reduceNeg, Int.reduceBEq, Nat.reduceLT, Nat.reduceEqDiff, hSS, hi, er, hk, t8, c2]
          exact f4
      · by_cases c3 : k % 8 = 6
        · obtain ⟨q1, q2, q3, q4, _⟩ := hw.take (k := m % 50) (by omega) ⟨hd17, hd18, hd19, hd20, hd21, hd22, hd23, hd24, trivial⟩
          obtain ⟨⟨f2, f3⟩, f4⟩ := fin _ _ _ _ _ _ hn18 hn19 hn20 hn21 ⟨_, _, q1⟩ (by omega) q3 (by omega)
          refine ⟨?_, ?_⟩
          · simp (disch := omega) only [ob_LMd, q_LMd_0, q_LMd_1, q_LMd_2, q_LMd_3, q_LMd_4, q_LMd_5, q_LMd_6, q_LMd_7, q_LMd_8, q_LMd_9, q_LMd_10, q_LMd_11, q_LMd_12, q_LMd_13, ewA, ewL, preC, binI, dvI, shI, cmpB, env, bi, List.headD, List.tail, List.map, Nat.reduceAdd, ewR, ewB, ewM, if_true, if_false, implies_true, forall_const, ne_eq, reduceCtorEq, Int.reduceEq, Int.reduceLT, Int.reduceLE, Int.reduceToNat, Int.reduceAdd, Int.reduceSub, Int.reduceMul, Int.reduceNeg, Int.reduceBEq, Nat.reduceLT, Nat.reduceEqDiff, hSS, hi, er, hk, ha, hb, hm, t8, c3, f1, y3, y5, f2, f3]
            repeat' (first | (with_reducible apply And.intro) | (with_reducible intro _))
            all_goals first | with_reducible assumption | trivial | omega | (split <;> omega)
          · simp (disch := omega) only [es_LMd, q_LMd_0, q_LMd_1, q_LMd_2, q_LMd_3, q_LMd_4, q_LMd_5, q_LMd_6, q_LMd_7, q_LMd_8, q_LMd_9, q_LMd_10, q_LMd_11, q_LMd_12, q_LMd_13, ewA, ewL, preC, binI, dvI, shI, cmpB, env, bi, List.headD, List.tail, List.map, Nat.reduceAdd, ewR, ewB, ewM, if_true, if_false, implies_true, forall_const, ne_eq, reduceCtorEq, Int.reduceEq, Int.reduceLT, Int.reduceLE, Int.reduceToNat, Int.reduceAdd, Int.reduceSub, Int.reduceMul, Int.reduceNeg, Int.reduceBEq, Nat.reduceLT, Nat.reduceEqDiff, hSS, hi, er, hk, t8, c3]
            exact f4
        · obtain ⟨q1, q2, q3, q4⟩ := (PostOK.use (ks := [.x, (.i .i64), (.i .i64), (.i .i64), (.i .i64), .x, (.i .i64), (.i .u8), (.i .i64), (.i .i64), (.i .i64)]) (os := [.x, (.i .i64), (.i .i64), (.i .i64), (.i .i64), .x]) (vs := [v25, v26, v27, v28, v29, v30]) ok26.2 rfl rfl ⟨hd25, hd26, hd27, hd28, hd29, hd30, trivial⟩) ⟨rfl, hnow, hbu, hle, hmo, rfl, hc, hk, ha, hb, hm, trivial⟩ y6
          have c4 : ¬ k % 8 = 4 := fun h => c1 (Or.inl h)
          have c7 : ¬ k % 8 = 7 := fun h => c1 (Or.inr h)
          replace q1 : WE v25 v26 v27 v28 v29 v30 c := q1
          replace q2 : v26 = now := q2
          replace q3 : v27 = bu := q3
          replace q4 : v29 = mo := q4
          obtain ⟨⟨f2, f3⟩, f4⟩ := fin _ _ _ _ _ _ hn26 hn27 hn28 hn29 q1 (by omega) q3 (by omega)
          refine ⟨?_, ?_⟩
          · simp (disch := omega) only [ob_LMd, q_LMd_0, q_LMd_1, q_LMd_2, q_LMd_3, q_LMd_4, q_LMd_5, q_LMd_6, q_LMd_7, q_LMd_8, q_LMd_9, q_LMd_10, q_LMd_11, q_LMd_12, q_LMd_13, ewA, ewL, preC, binI, dvI, shI, cmpB, env, bi, List.headD, List.tail, List.map, Nat.reduceAdd, ewR, ewB, ewM, if_true, if_false, implies_true, forall_const, ne_eq, reduceCtorEq, Int.reduceEq, Int.reduceLT, Int.reduceLE, Int.reduceToNat, Int.reduceAdd, Int.reduceSub, Int.reduceMul, Int.reduceNeg, Int.reduceBEq, Nat.reduceLT, Nat.reduceEqDiff, hSS, hi, er, hk, ha, hb, hm, t8, c4, c7, c2, c3, f1, y6, f2, f3]
            repeat' (first | (with_reducible apply And.intro) | (with_reducible intro _))
            all_goals first | with_reducible assumption | trivial | omega | (split <;> omega)
          · simp (disch := omega) only [es_LMd, q_LMd_0, q_LMd_1, q_LMd_2, q_LMd_3, q_LMd_4, q_LMd_5, q_LMd_6, q_LMd_7, q_LMd_8, q_LMd_9, q_LMd_10, q_LMd_11, q_LMd_12, q_LMd_13, ewA, ewL, preC, binI, dvI, shI, cmpB, env, bi, List.headD, List.tail, List.map, Nat.reduceAdd, ewR, ewB, ewM, if_true, if_false, implies_true, forall_const, ne_eq, reduceCtorEq, Int.reduceEq, Int.reduceLT, Int.reduceLE, Int.reduceToNat, Int.reduceAdd, Int.reduceSub, Int.reduceMul, Int.reduceNeg, Int.reduceBEq, Nat.reduceLT, Nat.reduceEqDiff, hSS, hi, er, hk, t8, c4, c7, c2, c3]
            exact f4
  · refine ⟨?_, ?_⟩
    · simp (disch := omega) only [ob_LMd, q_LMd_0, q_LMd_1, q_LMd_2, q_LMd_3, q_LMd_4, q_LMd_5, q_LMd_6, q_LMd_7, q_LMd_8, q_LMd_9, q_LMd_10, q_LMd_11, q_LMd_12, q_LMd_13, ewA, ewL, preC, binI, dvI, shI, cmpB, env, bi, List.headD, List.tail, List.map, Nat.reduceAdd, ewR, ewB, ewM, if_true, if_false, implies_true, forall_const, ne_eq, reduceCtorEq, Int.reduceEq, Int.reduceLT, Int.reduceLE, Int.reduceToNat, Int.reduceAdd, Int.reduceSub, Int.reduceMul, Int.reduceNeg, Int.reduceBEq, Nat.reduceLT, Nat.reduceEqDiff, hSS, hi]
    · simp (disch := omega) only [es_LMd, q_LMd_0, q_LMd_1, q_LMd_2, q_LMd_3, q_LMd_4, q_LMd_5, q_LMd_6, q_LMd_7, q_LMd_8, q_LMd_9, q_LMd_10, q_LMd_11, q_LMd_12, q_LMd_13, ewA, ewL, preC, binI, dvI, shI, cmpB, env, bi, List.headD, List.tail, List.map, Nat.reduceAdd, ewR, ewB, ewM, if_true, if_false, implies_true, forall_const, ne_eq, reduceCtorEq, Int.reduceEq, Int.reduceLT, Int.reduceLE, Int.reduceToNat, Int.reduceAdd, Int.reduceSub, Int.reduceMul, Int.reduceNeg, Int.reduceBEq, Nat.reduceLT, Nat.reduceEqDiff, hSS, hi]
      exact ⟨⟨d, B, hw⟩, ⟨Int.le_refl _, by show now ≤ now + 300 * (n - i); omega⟩, rfl, Int.le_refl _, by show mo ≤ mo + 1228800 * (n - i); omega⟩

end
end Go.Proofs.Ytfhheeoejncfgaa.Ew
