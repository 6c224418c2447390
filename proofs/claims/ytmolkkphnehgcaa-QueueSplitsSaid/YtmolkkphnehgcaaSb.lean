/- Layer 17: QueueSplits. -/
import Derived.Test.YtmolkkphnehgcaaQn
import Derived.Test.YtmolkkphnehgcaaWr
import Derived.Test.YtmolkkphnehgcaaSa
import Derived.Test.YtmolkkphnehgcaaSl
import Derived.Test.YtmolkkphnehgcaaSc
set_option linter.unusedVariables false
set_option linter.unusedSimpArgs false
namespace Go.Proofs.Ytmolkkphnehgcaa.Ew
open Go Go.RowKit
noncomputable section
--P Try.prog G0
--K 38 eg

def eg : Ent := growE 38 38 34 tmR
def zS : Nat → List Int → Int := fun _ _ => 0
def lo34 : Sh := .lst 34 tmR true
def preS (xs : List Int) : Prop := QIx xs ∧ rowsOK tmK (dc (env xs 3)) ∧ 0 ≤ env xs 5 ∧ (env xs 5 ≤ env xs 4 ∧ env xs 4 ≤ 100000) ∧ env xs 0 + (env xs 4 - env xs 5) ≤ 1099511627776 ∧ ((dc (env xs 3)).length : Int) + ((dc (env xs 1)).length : Int) ≤ 100000
def postS (xs ys : List Int) : Prop := env ys 0 = env xs 0 + (env xs 4 - env xs 5) ∧ QIx ys ∧ dc (env ys 1) = leftT (env ys 0) (dc (env xs 1)) ∧ dc (env ys 3) = dc (env xs 3) ++ dueT (env ys 0) (dc (env xs 1))
def muS (xs : List Int) : Nat := (env xs 4 - env xs 5).toNat
def pS : List Bool := [true,true,true,true,true,true,true,true,true,true,true,false,true,false]
def lbS : LEnt := ⟨⟨9011, 999999, [qo, lo34, i64, i64], [qob], [], .tup [lo34], zS, preS⟩, [13, 21, 89, 90], [21], [22, 23] ++ (List.range 13).map (· + 90), [.ex 0], 150, []⟩
def cS : Ctx := ⟨[e16], []⟩
def cSn : Ctx := cS.nm

def a_LS_0 : List E := [(.var (.i .i64) 0), (.var .x 1), (.var .x 2)]
def defs_LS : List (Nat × E) := [(640000102409856, (.app (.i .i64) 100000016 0 a_LS_0)),
  (640000102409857, (.app .x 100000016 1 a_LS_0)),
  (640000102409858, (.app .x 100000016 2 a_LS_0)),
  (640000102409859, (.app .x 100000016 3 a_LS_0)),
  (640000102409860, (.app (.i .i64) 100000016 4 a_LS_0))]
def q_LS_0 : E := (.and (.cmp .lss (.var (.i .i64) 5) (.var (.i .i64) 4)) (.not (.cmp .neq (.var (.i .i64) 640000102409860) (.lit (.i .i64) 0))))
def ob_LS : E := (.and (.and (.or (.not (.cmp .lss (.var (.i .i64) 5) (.var (.i .i64) 4))) (.and (.and (.app .b 100000016 1000000 [(.var (.i .i64) 0), (.var .x 1), (.var .x 2)]) (dE defs_LS 0 5)) (.or (.cmp .neq (.var (.i .i64) 640000102409860) (.lit (.i .i64) 0)) (.cmp .leq (.app .x 0 0 [(.app .x 0 4 [(.var .x 3), (.var .x 640000102409859)])]) (.lit .x 8796093022208))))) (.or (.not q_LS_0) (.app .b 9011 1000000 [(.var (.i .i64) 640000102409856), (.var .x 640000102409857), (.var .x 640000102409858), (.app .x 0 4 [(.var .x 3), (.var .x 640000102409859)]), (.var (.i .i64) 4), (.bin .add .i64 (.var (.i .i64) 5) (.lit (.i .i64) 1))]))) (.and (.or (.not (.or (.not (.cmp .lss (.var (.i .i64) 5) (.var (.i .i64) 4))) q_LS_0)) (.ite (.not (.cmp .lss (.var (.i .i64) 5) (.var (.i .i64) 4))) (.not (.cmp .lss (.var (.i .i64) 5) (.var (.i .i64) 4))) (.cmp .lss (.var (.i .i64) 5) (.var (.i .i64) 4)))) (.not (.and (.cmp .lss (.var (.i .i64) 5) (.var (.i .i64) 4)) (.cmp .neq (.var (.i .i64) 640000102409860) (.lit (.i .i64) 0))))))
def es_LS : List E := [(.ite (.not (.cmp .lss (.var (.i .i64) 5) (.var (.i .i64) 4))) (.var (.i .i64) 0) (.app (.i .i64) 9011 0 [(.var (.i .i64) 640000102409856), (.var .x 640000102409857), (.var .x 640000102409858), (.app .x 0 4 [(.var .x 3), (.var .x 640000102409859)]), (.var (.i .i64) 4), (.bin .add .i64 (.var (.i .i64) 5) (.lit (.i .i64) 1))])), (.ite (.not (.cmp .lss (.var (.i .i64) 5) (.var (.i .i64) 4))) (.var .x 1) (.app .x 9011 1 [(.var (.i .i64) 640000102409856), (.var .x 640000102409857), (.var .x 640000102409858), (.app .x 0 4 [(.var .x 3), (.var .x 640000102409859)]), (.var (.i .i64) 4), (.bin .add .i64 (.var (.i .i64) 5) (.lit (.i .i64) 1))])), (.ite (.not (.cmp .lss (.var (.i .i64) 5) (.var (.i .i64) 4))) (.var .x 2) (.app .x 9011 2 [(.var (.i .i64) 640000102409856), (.var .x 640000102409857), (.var .x 640000102409858), (.app .x 0 4 [(.var .x 3), (.var .x 640000102409859)]), (.var (.i .i64) 4), (.bin .add .i64 (.var (.i .i64) 5) (.lit (.i .i64) 1))])), (.ite (.not (.cmp .lss (.var (.i .i64) 5) (.var (.i .i64) 4))) (.var .x 3) (.app .x 9011 3 [(.var (.i .i64) 640000102409856), (.var .x 640000102409857), (.var .x 640000102409858), (.app .x 0 4 [(.var .x 3), (.var .x 640000102409859)]), (.var (.i .i64) 4), (.bin .add .i64 (.var (.i .i64) 5) (.lit (.i .i64) 1))]))]
def leS : LEnt := lbS.fw (fnL lbS cSn.l ob_LS es_LS postS muS)
theorem ev_LS : evL Try.prog G0 (tabOf cSn.fs) (evFn Try.prog G0 (tabOf cSn.fs) (ltOf cSn.ls) 40 10) 40 (subL cSn.ls 11 pS) leS (bodyAt Try.prog 11 pS) = some (ob_LS, es_LS) := by kernel_rfl

def preP (xs : List Int) : Prop := (env xs 0 = 0 ∧ env xs 1 = 0 ∧ env xs 2 = 0) ∧ (dc (env xs 3) ++ dc (env xs 4) = dc (env xs 5) ∧ dc (env xs 6) = dc (env xs 5) ∧ rowsOK tmK (dc (env xs 5)) ∧ ((dc (env xs 5)).length : Int) ≤ 100000) ∧
  (env xs 7 = env xs 10 ∧ env xs 13 = env xs 10) ∧ (dc (env xs 8) = dc (env xs 11) ∧ dc (env xs 14) = dc (env xs 11)) ∧ QI (env xs 7) (dc (env xs 8)) (dc (env xs 9)) ∧ QI (env xs 10) (dc (env xs 11)) (dc (env xs 12)) ∧ QI (env xs 13) (dc (env xs 14)) (dc (env xs 15))
def postTT (_ _ : List Int) : Prop := True
def pP : List Bool := [true,true,true,true,true,true,true,true,true,true,true,true]
def bP : LEnt := ⟨⟨9111, 999999, [i64, i64, i64, ls34, ls34, ls34, ls34, qo, qo, qo], [], [], .tup [.lt .b 1], zS, preP⟩, [16, 18, 20, 15, 17, 19, 21, 9, 11, 13], [8], (List.range 47).map (· + 103), [.ret], 150, [15, 17, 19, 21]⟩
def cP : Ctx := ⟨[e18, e17, e14, eg], []⟩
def cPn : Ctx := cP.nm

def a_P_0 : List E := [(.var (.i .i64) 7), (.var .x 8), (.var .x 9)]
def a_P_1 : List E := [(.var (.i .i64) 10), (.var .x 11), (.var .x 12)]
def defs_P : List (Nat × E) := [(640000243210944, (.app .x 100000038 0 [(.bin .add .i64 (.bin .add .i64 (.lit (.i .i64) 0) (.app (.i .i64) 0 0 [(.var .x 3)])) (.app (.i .i64) 0 0 [(.var .x 4)]))])),
  (640000115212480, (.app .b 100000018 0 [(.app .x 0 4 [(.app .x 0 4 [(.var .x 640000243210944), (.var .x 3)]), (.var .x 4)]), (.var .x 5)])),
  (640000108812480, (.app (.i .i64) 100000017 0 a_P_0)),
  (640000089612480, (.app .x 100000014 0 a_P_0)),
  (640000089612992, (.app .x 100000014 0 a_P_1)),
  (640000115213504, (.app .b 100000018 0 [(.var .x 640000089612480), (.var .x 640000089612992)])),
  (640000089613504, (.app .x 100000014 0 [(.var (.i .i64) 13), (.var .x 14), (.var .x 15)])),
  (640000089614016, (.app .x 100000014 0 a_P_1)),
  (640000115214528, (.app .b 100000018 0 [(.var .x 640000089613504), (.var .x 640000089614016)]))]
def q_P_0 : E := (.cmp .eql (.bin .add .i64 (.bin .add .i64 (.var (.i .i64) 0) (.var (.i .i64) 1)) (.var (.i .i64) 2)) (.lit (.i .i64) 0))
def q_P_1 : E := (.bin .add .i64 (.bin .add .i64 (.lit (.i .i64) 0) (.app (.i .i64) 0 0 [(.var .x 3)])) (.app (.i .i64) 0 0 [(.var .x 4)]))
def q_P_2 : E := (.app .x 0 4 [(.app .x 0 4 [(.var .x 640000243210944), (.var .x 3)]), (.var .x 4)])
def q_P_3 : E := (.and q_P_0 (.var .b 640000115212480))
def q_P_4 : E := (.and q_P_3 (.var .b 640000115212480))
def q_P_5 : E := (.not q_P_4)
def q_P_6 : E := (.or q_P_5 (.and (.app .b 100000017 1000000 [(.var (.i .i64) 10), (.var .x 11), (.var .x 12)]) (.and (.cmp .eql (.var (.i .i64) 640000108812480) (.app (.i .i64) 100000017 0 [(.var (.i .i64) 10), (.var .x 11), (.var .x 12)])) (.lit .b 1))))
def q_P_7 : E := (.app .b 100000014 1000000 [(.var (.i .i64) 10), (.var .x 11), (.var .x 12)])
def q_P_8 : E := (.and q_P_4 (.var .b 640000115213504))
def q_P_9 : E := (.not q_P_8)
def ob_P : E := (.and (.and (.and q_P_0 (.and (.and (.and q_P_0 (.not (.cmp .lss (.bin .add .i64 (.lit (.i .i64) 0) (.app (.i .i64) 0 0 [(.var .x 3)])) (.lit (.i .i64) 0)))) (.and q_P_0 (.not (.cmp .lss q_P_1 (.lit (.i .i64) 0))))) (.and (.and (.app .b 100000038 1000000 [q_P_1]) (dE defs_P 0 1)) (.and (.and q_P_0 (.cmp .leq (.app .x 0 0 [(.app .x 0 4 [(.var .x 640000243210944), (.var .x 3)])]) (.lit .x 8796093022208))) (.and q_P_0 (.cmp .leq (.app .x 0 0 [q_P_2]) (.lit .x 8796093022208))))))) (.and (.or (.not q_P_0) (.and (.app .b 100000018 1000000 [q_P_2, (.var .x 5)]) (dE defs_P 1 1))) (.and (.or (.not q_P_3) (.and (.app .b 100000018 1000000 [(.var .x 6), (.var .x 5)]) (.and (.cmp .eql (.var .b 640000115212480) (.app .b 100000018 0 [(.var .x 6), (.var .x 5)])) (.lit .b 1)))) (.and (.or q_P_5 (.and (.app .b 100000017 1000000 [(.var (.i .i64) 7), (.var .x 8), (.var .x 9)]) (dE defs_P 2 1))) (.and q_P_6 (.and (.or q_P_5 (.and (.app .b 100000017 1000000 [(.var (.i .i64) 13), (.var .x 14), (.var .x 15)]) (.and (.cmp .eql (.var (.i .i64) 640000108812480) (.app (.i .i64) 100000017 0 [(.var (.i .i64) 13), (.var .x 14), (.var .x 15)])) (.lit .b 1)))) (.and q_P_6 (.and (.or q_P_5 (.and (.app .b 100000014 1000000 [(.var (.i .i64) 7), (.var .x 8), (.var .x 9)]) (dE defs_P 3 1))) (.and (.or q_P_5 (.and q_P_7 (dE defs_P 4 1))) (.and (.or q_P_5 (.and (.and q_P_4 (.app .b 100000018 1000000 [(.var .x 640000089612480), (.var .x 640000089612992)])) (dE defs_P 5 1))) (.and (.or q_P_9 (.and (.app .b 100000014 1000000 [(.var (.i .i64) 13), (.var .x 14), (.var .x 15)]) (dE defs_P 6 1))) (.and (.or q_P_9 (.and q_P_7 (dE defs_P 7 1))) (.or q_P_9 (.and (.and q_P_8 (.app .b 100000018 1000000 [(.var .x 640000089613504), (.var .x 640000089614016)])) (dE defs_P 8 1))))))))))))))) (.and q_P_8 (.var .b 640000115214528)))
def es_P : List E := []
def leP : LEnt := bP.fw (fnR cPn.l.F bP.ent.np ob_P es_P postTT)
theorem ev_P : evPG Try.prog G0 (tabOf cPn.fs) (evFn Try.prog G0 (tabOf cPn.fs) (ltOf cPn.ls) 40 10) leP (codeAtF Try.prog 11 pP) = some (ob_P, es_P) := by kernel_rfl

def pre11 (xs : List Int) : Prop := rowsOK actK (dc (env xs 1)) ∧ ((dc (env xs 1)).length : Int) ≤ 9223372036854775807
def b11 : Ent := ⟨11, 11, [i64, acts, i64, i64], [], [0], .lt .b 1, zS, pre11⟩
def cX11 : Ctx := ⟨[e12, e13, e15, e17, e24], [(11, pS, leS), (11, pP, leP)]⟩
def cX11m : Ctx := ⟨[e12.nm, e13.nm, e15, e17.nm, e24.nm], [(11, pS, leS.nm), (11, pP, leP.nm)]⟩

def a_11_0 : List E := [(.var (.i .i64) 640000083200064), (.var .x 640000083200065), (.var .x 640000083200066), (.bin .add .i64 (.var (.i .i64) 640000108801600) (.app (.i .i64) 15 0 [(.var (.i .i64) 2), (.lit (.i .i64) 700)]))]
def a_11_1 : List E := [(.var (.i .i64) 640000153601600), (.var .x 640000153601601), (.var .x 640000153601602), (.bin .add .i64 (.var (.i .i64) 640000108802112) (.app (.i .i64) 15 0 [(.var (.i .i64) 3), (.lit (.i .i64) 700)]))]
def a_11_2 : List E := [(.var (.i .i64) 640000083200576), (.var .x 640000083200577), (.var .x 640000083200578), (.bin .add .i64 (.bin .add .i64 (.var (.i .i64) 640000108802624) (.app (.i .i64) 15 0 [(.var (.i .i64) 2), (.lit (.i .i64) 700)])) (.app (.i .i64) 15 0 [(.var (.i .i64) 3), (.lit (.i .i64) 700)]))]
def a_11_3 : List E := [(.var (.i .i64) 640000083201088), (.var .x 640000083201089), (.var .x 640000083201090), (.app .x 0 2 []), (.bin .add .i64 (.app (.i .i64) 15 0 [(.var (.i .i64) 2), (.lit (.i .i64) 700)]) (.app (.i .i64) 15 0 [(.var (.i .i64) 3), (.lit (.i .i64) 700)])), (.lit (.i .i64) 0)]
def defs_11 : List (Nat × E) := [(640000083200064, (.app (.i .i64) 100000013 0 [(.var (.i .i64) 0), (.var .x 1)])),
  (640000083200065, (.app .x 100000013 1 [(.var (.i .i64) 0), (.var .x 1)])),
  (640000083200066, (.app .x 100000013 2 [(.var (.i .i64) 0), (.var .x 1)])),
  (640000083200576, (.app (.i .i64) 100000013 0 [(.var (.i .i64) 0), (.var .x 1)])),
  (640000083200577, (.app .x 100000013 1 [(.var (.i .i64) 0), (.var .x 1)])),
  (640000083200578, (.app .x 100000013 2 [(.var (.i .i64) 0), (.var .x 1)])),
  (640000083201088, (.app (.i .i64) 100000013 0 [(.var (.i .i64) 0), (.var .x 1)])),
  (640000083201089, (.app .x 100000013 1 [(.var (.i .i64) 0), (.var .x 1)])),
  (640000083201090, (.app .x 100000013 2 [(.var (.i .i64) 0), (.var .x 1)])),
  (640000108801600, (.app (.i .i64) 100000017 0 [(.var (.i .i64) 640000083200064), (.var .x 640000083200065), (.var .x 640000083200066)])),
  (640000153601600, (.app (.i .i64) 100000024 0 a_11_0)),
  (640000153601601, (.app .x 100000024 1 a_11_0)),
  (640000153601602, (.app .x 100000024 2 a_11_0)),
  (640000153601603, (.app .x 100000024 3 a_11_0)),
  (640000153601604, (.app (.i .i64) 100000024 4 a_11_0)),
  (640000108802112, (.app (.i .i64) 100000017 0 [(.var (.i .i64) 640000153601600), (.var .x 640000153601601), (.var .x 640000153601602)])),
  (640000153602112, (.app (.i .i64) 100000024 0 a_11_1)),
  (640000153602113, (.app .x 100000024 1 a_11_1)),
  (640000153602114, (.app .x 100000024 2 a_11_1)),
  (640000153602115, (.app .x 100000024 3 a_11_1)),
  (640000153602116, (.app (.i .i64) 100000024 4 a_11_1)),
  (640000108802624, (.app (.i .i64) 100000017 0 [(.var (.i .i64) 640000083200576), (.var .x 640000083200577), (.var .x 640000083200578)])),
  (640000153602624, (.app (.i .i64) 100000024 0 a_11_2)),
  (640000153602625, (.app .x 100000024 1 a_11_2)),
  (640000153602626, (.app .x 100000024 2 a_11_2)),
  (640000153602627, (.app .x 100000024 3 a_11_2)),
  (640000153602628, (.app (.i .i64) 100000024 4 a_11_2)),
  (640057670403136, (.app (.i .i64) 100009011 0 a_11_3)),
  (640057670403137, (.app .x 100009011 1 a_11_3)),
  (640057670403138, (.app .x 100009011 2 a_11_3)),
  (640057670403139, (.app .x 100009011 3 a_11_3))]
def ob_11 : E := (.and (.app .b 100000012 1000000 []) (.and (.and (.app .b 100000013 1000000 [(.var (.i .i64) 0), (.var .x 1)]) (dE defs_11 0 3)) (.and (.and (.app .b 100000013 1000000 [(.var (.i .i64) 0), (.var .x 1)]) (dE defs_11 3 3)) (.and (.and (.app .b 100000013 1000000 [(.var (.i .i64) 0), (.var .x 1)]) (dE defs_11 6 3)) (.and (.and (.app .b 15 1000000 [(.var (.i .i64) 2), (.lit (.i .i64) 700)]) (.app .b 15 1000000 [(.var (.i .i64) 3), (.lit (.i .i64) 700)])) (.and (.and (.and (.app .b 100000017 1000000 [(.var (.i .i64) 640000083200064), (.var .x 640000083200065), (.var .x 640000083200066)]) (dE defs_11 9 1)) (.and (.app .b 100000024 1000000 [(.var (.i .i64) 640000083200064), (.var .x 640000083200065), (.var .x 640000083200066), (.bin .add .i64 (.var (.i .i64) 640000108801600) (.app (.i .i64) 15 0 [(.var (.i .i64) 2), (.lit (.i .i64) 700)]))]) (dE defs_11 10 5))) (.and (.and (.and (.app .b 100000017 1000000 [(.var (.i .i64) 640000153601600), (.var .x 640000153601601), (.var .x 640000153601602)]) (dE defs_11 15 1)) (.and (.app .b 100000024 1000000 [(.var (.i .i64) 640000153601600), (.var .x 640000153601601), (.var .x 640000153601602), (.bin .add .i64 (.var (.i .i64) 640000108802112) (.app (.i .i64) 15 0 [(.var (.i .i64) 3), (.lit (.i .i64) 700)]))]) (dE defs_11 16 5))) (.and (.and (.and (.app .b 100000017 1000000 [(.var (.i .i64) 640000083200576), (.var .x 640000083200577), (.var .x 640000083200578)]) (dE defs_11 21 1)) (.and (.app .b 100000024 1000000 [(.var (.i .i64) 640000083200576), (.var .x 640000083200577), (.var .x 640000083200578), (.bin .add .i64 (.bin .add .i64 (.var (.i .i64) 640000108802624) (.app (.i .i64) 15 0 [(.var (.i .i64) 2), (.lit (.i .i64) 700)])) (.app (.i .i64) 15 0 [(.var (.i .i64) 3), (.lit (.i .i64) 700)]))]) (dE defs_11 22 5))) (.and (.and (.app .b 100009011 1000000 [(.var (.i .i64) 640000083201088), (.var .x 640000083201089), (.var .x 640000083201090), (.app .x 0 2 []), (.bin .add .i64 (.app (.i .i64) 15 0 [(.var (.i .i64) 2), (.lit (.i .i64) 700)]) (.app (.i .i64) 15 0 [(.var (.i .i64) 3), (.lit (.i .i64) 700)])), (.lit (.i .i64) 0)]) (dE defs_11 27 4)) (.app .b 100009111 1000000 [(.var (.i .i64) 640000153601604), (.var (.i .i64) 640000153602116), (.var (.i .i64) 640000153602628), (.var .x 640000153601603), (.var .x 640000153602115), (.var .x 640000153602627), (.var .x 640057670403139), (.var (.i .i64) 640000153602112), (.var .x 640000153602113), (.var .x 640000153602114), (.var (.i .i64) 640000153602624), (.var .x 640000153602625), (.var .x 640000153602626), (.var (.i .i64) 640057670403136), (.var .x 640057670403137), (.var .x 640057670403138)]))))))))))
def es_11 : List E := []
def e11 : Ent := b11.fw (fnR cX11m.l.F b11.np ob_11 es_11 postTT)
theorem ev_11 : evE Try.prog G0 (tabOf cX11m.fs) (ltOf cX11m.ls) 40 10 e11 = some (ob_11, es_11) := by kernel_rfl

theorem okeg : EntryOK Try.prog G0 eg := by
  obtain ⟨inf, z, z1, z2, z3, z4, z5⟩ := info34b
  refine grow_ok G0 inf z (by rw [z5]; rfl) (by omega) (fun w => ?_) (fun n w hn hb h63 => ?_)
  · exact Any8.slices_Grow_room Try.growA none 0 0 0 w (by decide) (by decide) (by decide) (by decide)
  · have h := Any8.slices_Grow_grow Try.growA inf z z1 z2 (by omega) none 0 0 n [] w (Nat.le_refl _) (by omega) (by rw [Nat.zero_add]; exact hb) (by omega) (by simp) (fun _ => rfl) (fun a ha => by cases ha)
    rw [Nat.zero_add] at h
    refine h.mono ?_
    rintro e w' ⟨rfl, rfl⟩
    exact ⟨rfl, by simp; rfl⟩

theorem due_left {now : Int} {T M : RL} (h : QI now T M) (t : Int) : T = dueT t T ++ leftT t T := by
  obtain ⟨s1, s2⟩ := h.split t
  rw [← s1, ← s2, List.take_append_drop]
theorem due_due {now x t : Int} {T M : RL} (h : QI now T M) (hx : x ≤ t) : dueT x T ++ dueT t (leftT x T) = dueT t T ∧ leftT t (leftT x T) = leftT t T := by
  have e1 : dueT t (dueT x T) = dueT x T := List.filter_eq_self.2 fun r hr => by
    have := (List.mem_filter.1 hr).2
    simp only [decide_eq_true_eq] at this ⊢; omega
  have e2 : leftT t (dueT x T) = [] := List.filter_eq_nil_iff.2 fun r hr => by
    have := (List.mem_filter.1 hr).2
    simp only [decide_eq_true_eq] at this ⊢; omega
  have hT := due_left h x
  constructor
  · conv => rhs; rw [hT]
    unfold dueT at e1 ⊢
    rw [List.filter_append, e1]
  · conv => rhs; rw [hT]
    unfold leftT dueT at e2 ⊢
    rw [List.filter_append, e2, List.nil_append]

theorem cSok : cS.OK Try.prog G0 := cEok.sub rfl (by simp [cS, cE]) (by simp [cS])
/-- One tick. -/
theorem tick1 {now tc mc a b c l e : Int} (h : QI now (dc tc) (dc mc)) (hb : now + 1 ≤ 1099511627776)
    (ho : isOut e16.fn [now, tc, mc] 0 [.i .i64, .x, .x, .x, .i .i64] [a, b, c, l, e]) :
    a = now + 1 ∧ dc b = leftT (now + 1) (dc tc) ∧ dc l = dueT (now + 1) (dc tc) ∧ e = 0 ∧ QI (now + 1) (dc b) (dc c) := by
  obtain ⟨o0, o1, o2, o3, o4, _⟩ := ho
  have ht := h.tim
  have e : tickT now = now + 1 := by unfold tickT; split <;> omega
  have hb' : toB now (now + 1) = true := toB_ok (by omega) hb
  have g0 : fn16 0 [now, tc, mc] = now + 1 := by show (bif toB now (tickT now) then tickT now else now) = _; rw [e, hb']; rfl
  have g1 : fn16 1 [now, tc, mc] = cd (leftT (now + 1) (dc tc)) := by show (bif toB now (tickT now) then cd (leftT (tickT now) (dc tc)) else tc) = _; rw [e, hb']; rfl
  have g2 : fn16 2 [now, tc, mc] = delC (dueT (now + 1) (dc tc)) mc := by show (bif toB now (tickT now) then delC (dueT (tickT now) (dc tc)) mc else mc) = _; rw [e, hb']; rfl
  have g3 : fn16 3 [now, tc, mc] = cd (dueT (now + 1) (dc tc)) := by show (bif toB now (tickT now) then cd (dueT (tickT now) (dc tc)) else cd []) = _; rw [e, hb']; rfl
  have g4 : fn16 4 [now, tc, mc] = 0 := by show (bif toB now (tickT now) then (0 : Int) else 2) = _; rw [e, hb']; rfl
  have f1 : dc b = leftT (now + 1) (dc tc) := by rw [show b = _ from o1]; exact (congrArg dc g1).trans (dc_cd _)
  have f2 : dc c = delAll (dueT (now + 1) (dc tc)) (dc mc) := by rw [show c = _ from o2]; exact (congrArg dc g2).trans (dc_delC _ _)
  have f3 : dc l = dueT (now + 1) (dc tc) := by rw [show l = _ from o3]; exact (congrArg dc g3).trans (dc_cd _)
  refine ⟨Eq.trans o0 ((congrArg IntKind.i64.wrap g0).trans (i64w (by omega) (by omega))), f1, f3, Eq.trans o4 ((congrArg IntKind.i64.wrap g4).trans rfl), ?_⟩
  rw [f1, f2]
  exact h.to (by omega) hb
/-- To. -/
theorem to1 {now tc mc t a b c l e : Int} (h : QI now (dc tc) (dc mc)) (h1 : now ≤ t) (h2 : t ≤ 1099511627776)
    (ho : isOut e24.fn [now, tc, mc, t] 0 [.i .i64, .x, .x, .x, .i .i64] [a, b, c, l, e]) :
    a = t ∧ dc b = leftT t (dc tc) ∧ dc l = dueT t (dc tc) ∧ e = 0 ∧ QI t (dc b) (dc c) := by
  obtain ⟨o0, o1, o2, o3, o4, _⟩ := ho
  have ht := h.tim
  have hb' : toB now t = true := toB_ok h1 h2
  have g0 : fn24 0 [now, tc, mc, t] = t := by show (bif toB now t then t else now) = _; rw [hb']; rfl
  have g1 : fn24 1 [now, tc, mc, t] = cd (leftT t (dc tc)) := by show (bif toB now t then cd (leftT t (dc tc)) else tc) = _; rw [hb']; rfl
  have g2 : fn24 2 [now, tc, mc, t] = delC (dueT t (dc tc)) mc := by show (bif toB now t then delC (dueT t (dc tc)) mc else mc) = _; rw [hb']; rfl
  have g3 : fn24 3 [now, tc, mc, t] = cd (dueT t (dc tc)) := by show (bif toB now t then cd (dueT t (dc tc)) else cd []) = _; rw [hb']; rfl
  have g4 : fn24 4 [now, tc, mc, t] = 0 := by show (bif toB now t then (0 : Int) else 2) = _; rw [hb']; rfl
  have f1 : dc b = leftT t (dc tc) := by rw [show b = _ from o1]; exact (congrArg dc g1).trans (dc_cd _)
  have f2 : dc c = delAll (dueT t (dc tc)) (dc mc) := by rw [show c = _ from o2]; exact (congrArg dc g2).trans (dc_delC _ _)
  have f3 : dc l = dueT t (dc tc) := by rw [show l = _ from o3]; exact (congrArg dc g3).trans (dc_cd _)
  refine ⟨Eq.trans o0 ((congrArg IntKind.i64.wrap g0).trans (i64w (by omega) (by omega))), f1, f3, Eq.trans o4 ((congrArg IntKind.i64.wrap g4).trans rfl), ?_⟩
  rw [f1, f2]
  exact h.to h1 h2

theorem split_w {N C D al be : Int} (m1 : QI N (dc C) (dc D)) (m2 : N ≤ 1099511532703) (ra : 0 ≤ al ∧ al < 700) (rb : 0 ≤ be ∧ be < 700) :
    IntKind.i64.wrap N = N ∧ IntKind.i64.wrap (N + al) = N + al ∧ IntKind.i64.wrap (al + be) = al + be ∧ IntKind.i64.wrap (N + al + be) = N + al + be ∧ (N ≤ N + al ∧ N + al ≤ 1099511627776) ∧ preS [N, C, D, cd [], al + be, 0] := by
  have ht := m1.tim
  have hl := m1.len
  refine ⟨i64w (by omega) (by omega), i64w (by omega) (by omega), i64w (by omega) (by omega), i64w (by omega) (by omega), by omega, m1, ?_, by show (0 : Int) ≤ 0; decide, ⟨by show 0 ≤ al + be; omega, by show al + be ≤ _; omega⟩, by show N + (al + be - 0) ≤ _; omega, ?_⟩
  · show rowsOK tmK (dc (cd []))
    rw [dc_cd]; intro r hr; cases hr
  · show ((dc (cd [])).length : Int) + ((dc C).length : Int) ≤ _
    rw [dc_cd]; show ((0 : Nat) : Int) + _ ≤ _; omega
theorem split_p {N C D al be v11 v12 v13 v14 v15 v17 v18 v19 v20 v21 v23 v24 v25 v26 v27 v28 v29 v30 v31 : Int} (m1 : QI N (dc C) (dc D)) (m2 : N ≤ 1099511532703) (ra : 0 ≤ al ∧ al < 700) (rb : 0 ≤ be ∧ be < 700)
    (o5 : isOut e24.fn [N, C, D, N + al] 0 [.i .i64, .x, .x, .x, .i .i64] [v11, v12, v13, v14, v15]) (o7 : isOut e24.fn [v11, v12, v13, N + al + be] 0 [.i .i64, .x, .x, .x, .i .i64] [v17, v18, v19, v20, v21]) (o9 : isOut e24.fn [N, C, D, N + al + be] 0 [.i .i64, .x, .x, .x, .i .i64] [v23, v24, v25, v26, v27])
    (u : postS [N, C, D, cd [], al + be, 0] [v28, v29, v30, v31]) : preP [v15, v21, v27, v14, v20, v26, v31, v17, v18, v19, v23, v24, v25, v28, v29, v30] ∧ QIx [v11, v12, v13] := by
  have ht := m1.tim
  have hl := m1.len
  obtain ⟨q1, q2, q3, q4, q5⟩ := to1 m1 (t := N + al) (by omega) (by omega) o5
  subst q1
  obtain ⟨r1, r2, r3, r4, r5⟩ := to1 q5 (t := N + al + be) (by omega) (by omega) o7
  obtain ⟨s1, s2, s3, s4, s5⟩ := to1 m1 (t := N + al + be) (by omega) (by omega) o9
  obtain ⟨u1, u2, u3, u4⟩ := u
  replace u1 : v28 = N + (al + be - 0) := u1
  have u1' : v28 = N + al + be := by omega
  replace u2 : QI v28 (dc v29) (dc v30) := u2
  replace u3 : dc v29 = leftT v28 (dc C) := u3
  replace u4 : dc v31 = dc (cd []) ++ dueT v28 (dc C) := u4
  rw [dc_cd, List.nil_append] at u4
  obtain ⟨d1, d2⟩ := due_due m1 (x := N + al) (t := N + al + be) (by omega)
  subst q4 r4 s4
  have hdl : (dueT (N + al + be) (dc C)).length ≤ (dc C).length := List.length_filter_le _ _
  refine ⟨⟨⟨rfl, rfl, rfl⟩, ⟨?_, ?_, ?_, ?_⟩, ⟨?_, ?_⟩, ⟨?_, ?_⟩, ?_, ?_, ?_⟩, q5⟩
  · show dc v14 ++ dc v20 = dc v26
    rw [q3, r3, s3, q2, d1]
  · show dc v31 = dc v26
    rw [u4, s3, u1']
  · show rowsOK tmK (dc v26)
    rw [s3]; exact fun r hr => m1.row r (List.mem_filter.1 hr).1
  · show ((dc v26).length : Int) ≤ 100000
    rw [s3]; omega
  · show v17 = v23
    rw [r1, s1]
  · show v28 = v23
    rw [u1', s1]
  · show dc v18 = dc v24
    rw [r2, s2, q2, d2]
  · show dc v29 = dc v24
    rw [u3, s2, u1']
  · show QI v17 (dc v18) (dc v19)
    rw [r1]; exact r5
  · show QI v23 (dc v24) (dc v25)
    rw [s1]; exact s5
  · exact u2

theorem okLS : ItemOK Try.prog G0 11 pS leS ∧ PostOK leS.ent postS := by
  refine cSok.nm.loopH mixed rfl ⟨_, _, _, Try.func11, rfl, rfl⟩ ev_LS (by kernel_rfl) _ rfl fun xs hf hp φ hφ => ?_
  obtain ⟨l, hl, hS, hF⟩ := self_H lbS φ muS (muS xs) cSn.l (by decide)
  show ∃ ρ : Nat → Int, _ ∧ ob_LS.tt (Tabs.F (enH lbS φ muS (muS xs) :: cSn.l)) ρ = true ∧ postS xs (es_LS.map (E.den (Tabs.F (enH lbS φ muS (muS xs) :: cSn.l)) ρ))
  rw [hl]
  replace hφ : ∀ ys, fits [(.i .i64), .x, .x, .x, (.i .i64), (.i .i64)] ys → lbS.ent.pre ys → muS ys < muS xs → postS ys (outsE φ ys 0 lbS.ent.oks) := hφ
  have F9011 := FC (k := 9011) rfl hS
  have F16 := FC (k := 100000016) rfl (hF e16.nm (by rfl) (by decide) (by decide))
  replace hf : fits [(.i .i64), .x, .x, .x, (.i .i64), (.i .i64)] xs := hf
  obtain ⟨now, xs0, hx0, hnow, hf0⟩ := fits_cons hf
  obtain ⟨tc, xs1, hx1, htc, hf1⟩ := fits_cons hf0
  obtain ⟨mc, xs2, hx2, hmc, hf2⟩ := fits_cons hf1
  obtain ⟨E, xs3, hx3, hE, hf3⟩ := fits_cons hf2
  obtain ⟨n, xs4, hx4, hn, hf4⟩ := fits_cons hf3
  obtain ⟨i, xs5, hx5, hi, hf5⟩ := fits_cons hf4
  have hxn := fits_nil hf5
  subst hxn hx5 hx4 hx3 hx2 hx1 hx0
  simp only [norm_i] at hnow hn hi
  obtain ⟨ρ, hρ, hd⟩ := solve (F := l.F) 6 defs_LS (by kernel_rfl) [now, tc, mc, E, n, i]
  have hDf := dE_tt (by kernel_rfl) hd
  refine ⟨ρ, hρ, ?_⟩
  have r0 : ρ 0 = now := hρ 0 (by decide)
  have r1 : ρ 1 = tc := hρ 1 (by decide)
  have r2 : ρ 2 = mc := hρ 2 (by decide)
  have r3 : ρ 3 = E := hρ 3 (by decide)
  have r4 : ρ 4 = n := hρ 4 (by decide)
  have r5 : ρ 5 = i := hρ 5 (by decide)
  obtain ⟨v1, hv1, hd1, hn1⟩ := nmd hd 0 rfl
  obtain ⟨v2, hv2, hd2, hn2⟩ := nmd hd 1 rfl
  obtain ⟨v3, hv3, hd3, hn3⟩ := nmd hd 2 rfl
  obtain ⟨v4, hv4, hd4, hn4⟩ := nmd hd 3 rfl
  obtain ⟨v5, hv5, hd5, hn5⟩ := nmd hd 4 rfl
  simp only [norm_i] at hn1 hn5
  simp (disch := omega) only [norm_i, a_LS_0, F16, Ent.nm_fn, r0, hnow, r1, r2, r3, r4, hn, r5, hi, hv1, hn1, hv2, hv3, hv4, hv5, hn5, ewA, ewL, preC, binI, dvI, shI, cmpB, env, bi, List.headD, List.tail, List.map, Nat.reduceAdd, ewR, ewB, ewM, if_true, if_false, implies_true, forall_const, ne_eq, reduceCtorEq, Int.reduceEq, Int.reduceLT, Int.reduceLE, Int.reduceToNat, Int.reduceAdd, Int.reduceSub, Int.reduceMul, Int.reduceNeg, Int.reduceBEq, Nat.reduceLT, Nat.reduceEqDiff] at hd1 hd2 hd3 hd4 hd5
  have hSS := And.intro (And.intro (And.intro (And.intro F9011 F16) (And.intro r0 hnow)) (And.intro (And.intro r1 r2) (And.intro r3 (And.intro r4 hn)))) (And.intro (And.intro (And.intro r5 hi) (And.intro hv1 (And.intro hn1 hv2))) (And.intro (And.intro hv3 hv4) (And.intro hv5 (And.intro hn5 hDf))))
  obtain ⟨hq, p1, p2, p3, p4, p5⟩ := hp
  replace hq : QI now (dc tc) (dc mc) := hq
  replace p1 : rowsOK tmK (dc E) := p1
  simp only [ewA, ewL, preC, binI, dvI, shI, cmpB, env, bi, List.headD, List.tail, List.map, Nat.reduceAdd] at p2 p3 p4 p5
  have ht := hq.tim
  by_cases hi : i < n
  · obtain ⟨q1, q2, q3, q4, q5⟩ := tick1 hq (by omega) ⟨hd1, hd2, hd3, hd4, hd5, trivial⟩
    subst q1 q4
    have hs := due_left hq (now + 1)
    have hl := congrArg List.length hs
    rw [List.length_append] at hl
    obtain ⟨E', hE⟩ : ∃ E', E' = cd (dc E ++ dc v4) := ⟨_, rfl⟩
    have dE : dc E' = dc E ++ dc v4 := by rw [hE]; exact dc_cd _
    have lE : (dc E').length = (dc E).length + (dueT (now + 1) (dc tc)).length := by rw [dE, List.length_append, q3]
    have yp : lbS.ent.pre [now + 1, v2, v3, E', n, i + 1] := ⟨q5, fun r hr => by
      replace hr : r ∈ dc E' := hr
      rw [dE, q3] at hr
      rcases List.mem_append.1 hr with hr | hr
      · exact p1 r hr
      · exact hq.row r (List.mem_filter.1 hr).1, by show 0 ≤ i + 1; omega, ⟨by show i + 1 ≤ n; omega, p3.2⟩, by show now + 1 + (n - (i + 1)) ≤ _; omega, by show ((dc E').length : Int) + ((dc v2).length : Int) ≤ _; rw [lE, q2]; omega⟩
    have ym : muS [now + 1, v2, v3, E', n, i + 1] < muS [now, tc, mc, E, n, i] := by show (n - (i + 1)).toNat < (n - i).toNat; omega
    have q := hφ [now + 1, v2, v3, E', n, i + 1] ⟨i64w (by omega) (by omega), rfl, rfl, rfl, hn, i64w (by omega) (by omega), trivial⟩ yp ym
    have y16 : e16.pre [now, tc, mc] := hq
    refine ⟨?_, ?_⟩
    · simp (disch := omega) only [ob_LS, q_LS_0, ewA, ewL, preC, binI, dvI, shI, cmpB, env, bi, List.headD, List.tail, List.map, Nat.reduceAdd, ewR, ewB, ewM, if_true, if_false, implies_true, forall_const, ne_eq, reduceCtorEq, Int.reduceEq, Int.reduceLT, Int.reduceLE, Int.reduceToNat, Int.reduceAdd, Int.reduceSub, Int.reduceMul, Int.reduceNeg, Int.reduceBEq, Nat.reduceLT, Nat.reduceEqDiff, hSS, hi, dc_cd, ← hE]
      exact ⟨⟨y16, by omega⟩, yp, ym⟩
    · simp (disch := omega) only [es_LS, q_LS_0, ewA, ewL, preC, binI, dvI, shI, cmpB, env, bi, List.headD, List.tail, List.map, Nat.reduceAdd, ewR, ewB, ewM, if_true, if_false, implies_true, forall_const, ne_eq, reduceCtorEq, Int.reduceEq, Int.reduceLT, Int.reduceLE, Int.reduceToNat, Int.reduceAdd, Int.reduceSub, Int.reduceMul, Int.reduceNeg, Int.reduceBEq, Nat.reduceLT, Nat.reduceEqDiff, hSS, hi, dc_cd, ← hE]
      obtain ⟨r1, r2, r3, r4⟩ := q
      have r1' : IntKind.i64.wrap (φ 0 [now + 1, v2, v3, E', n, i + 1]) = now + 1 + (n - (i + 1)) := r1
      have r3' : dc (φ 1 [now + 1, v2, v3, E', n, i + 1]) = leftT (IntKind.i64.wrap (φ 0 [now + 1, v2, v3, E', n, i + 1])) (dc v2) := r3
      have r4' : dc (φ 3 [now + 1, v2, v3, E', n, i + 1]) = dc E' ++ dueT (IntKind.i64.wrap (φ 0 [now + 1, v2, v3, E', n, i + 1])) (dc v2) := r4
      obtain ⟨d1, d2⟩ := due_due hq (x := now + 1) (t := now + 1 + (n - (i + 1))) (by omega)
      refine ⟨r1'.trans (by show now + 1 + (n - (i + 1)) = now + (n - i); omega), r2, ?_, ?_⟩
      · show dc (φ 1 [now + 1, v2, v3, E', n, i + 1]) = leftT (IntKind.i64.wrap (φ 0 [now + 1, v2, v3, E', n, i + 1])) (dc tc)
        rw [r3', r1', q2, d2]
      · show dc (φ 3 [now + 1, v2, v3, E', n, i + 1]) = dc E ++ dueT (IntKind.i64.wrap (φ 0 [now + 1, v2, v3, E', n, i + 1])) (dc tc)
        rw [r4', r1', dE, q2, q3, List.append_assoc, d1]
  · have hz : n - i = 0 := by omega
    refine ⟨?_, ?_⟩
    · simp (disch := omega) only [ob_LS, q_LS_0, ewA, ewL, preC, binI, dvI, shI, cmpB, env, bi, List.headD, List.tail, List.map, Nat.reduceAdd, ewR, ewB, ewM, if_true, if_false, implies_true, forall_const, ne_eq, reduceCtorEq, Int.reduceEq, Int.reduceLT, Int.reduceLE, Int.reduceToNat, Int.reduceAdd, Int.reduceSub, Int.reduceMul, Int.reduceNeg, Int.reduceBEq, Nat.reduceLT, Nat.reduceEqDiff, hSS, hi]
    · simp (disch := omega) only [es_LS, q_LS_0, ewA, ewL, preC, binI, dvI, shI, cmpB, env, bi, List.headD, List.tail, List.map, Nat.reduceAdd, ewR, ewB, ewM, if_true, if_false, implies_true, forall_const, ne_eq, reduceCtorEq, Int.reduceEq, Int.reduceLT, Int.reduceLE, Int.reduceToNat, Int.reduceAdd, Int.reduceSub, Int.reduceMul, Int.reduceNeg, Int.reduceBEq, Nat.reduceLT, Nat.reduceEqDiff, hSS, hi]
      have f1 : dueT now (dc tc) = [] := List.filter_eq_nil_iff.2 fun r hr => by have := hq.rng r hr; simp; omega
      have f2 : leftT now (dc tc) = dc tc := List.filter_eq_self.2 fun r hr => by have := hq.rng r hr; simp; omega
      exact ⟨by show now = now + (n - i); omega, hq, f2.symm, by show dc E = dc E ++ dueT now (dc tc); rw [f1, List.append_nil]⟩

theorem cPok : cP.OK Try.prog G0 := (((Ctx.OK.nil.addF okeg rfl).addF ok14 rfl).addF ok17 rfl).addF ok18 rfl

set_option maxHeartbeats 4000000 in
theorem okP : ItemOK Try.prog G0 11 pP leP ∧ PostOK leP.ent postTT := by
  refine cPok.nm.pieceGH mixed ev_P (by kernel_rfl) _ rfl fun xs hf hp => ?_
  obtain ⟨l, hl, hF⟩ := ctx_P (l0 := cPn.l)
  show ∃ ρ : Nat → Int, _ ∧ ob_P.tt cPn.l.F ρ = true ∧ postTT xs (es_P.map (E.den cPn.l.F ρ))
  rw [hl]
  have F14 := FC (k := 100000014) rfl (hF e14.nm (by rfl) (by decide))
  have F17 := FC (k := 100000017) rfl (hF e17.nm (by rfl) (by decide))
  have F18 := FC (k := 100000018) rfl (hF e18.nm (by rfl) (by decide))
  have F38 := FC (k := 100000038) rfl (hF eg.nm (by rfl) (by decide))
  replace hf : fits [(.i .i64), (.i .i64), (.i .i64), .x, .x, .x, .x, (.i .i64), .x, .x, (.i .i64), .x, .x, (.i .i64), .x, .x] xs := hf
  obtain ⟨e, xs0, hx0, he, hf0⟩ := fits_cons hf
  obtain ⟨f1, xs1, hx1, hf1, hf1⟩ := fits_cons hf0
  obtain ⟨g, xs2, hx2, hg, hf2⟩ := fits_cons hf1
  obtain ⟨U, xs3, hx3, hU, hf3⟩ := fits_cons hf2
  obtain ⟨V, xs4, hx4, hV, hf4⟩ := fits_cons hf3
  obtain ⟨W, xs5, hx5, hW, hf5⟩ := fits_cons hf4
  obtain ⟨X, xs6, hx6, hX, hf6⟩ := fits_cons hf5
  obtain ⟨pn, xs7, hx7, hpn, hf7⟩ := fits_cons hf6
  obtain ⟨pt, xs8, hx8, hpt, hf8⟩ := fits_cons hf7
  obtain ⟨pm, xs9, hx9, hpm, hf9⟩ := fits_cons hf8
  obtain ⟨qn, xs10, hx10, hqn, hf10⟩ := fits_cons hf9
  obtain ⟨qt, xs11, hx11, hqt, hf11⟩ := fits_cons hf10
  obtain ⟨qm, xs12, hx12, hqm, hf12⟩ := fits_cons hf11
  obtain ⟨rn, xs13, hx13, hrn, hf13⟩ := fits_cons hf12
  obtain ⟨rt, xs14, hx14, hrt, hf14⟩ := fits_cons hf13
  obtain ⟨rm, xs15, hx15, hrm, hf15⟩ := fits_cons hf14
  have hxn := fits_nil hf15
  subst hxn hx15 hx14 hx13 hx12 hx11 hx10 hx9 hx8 hx7 hx6 hx5 hx4 hx3 hx2 hx1 hx0
  simp only [norm_i] at he hf1 hg hpn hqn hrn
  obtain ⟨ρ, hρ, hd⟩ := solve (F := l.F) 16 defs_P (by kernel_rfl) [e, f1, g, U, V, W, X, pn, pt, pm, qn, qt, qm, rn, rt, rm]
  have hDf := dE_tt (by kernel_rfl) hd
  refine ⟨ρ, hρ, ?_⟩
  have r0 : ρ 0 = e := hρ 0 (by decide)
  have r1 : ρ 1 = f1 := hρ 1 (by decide)
  have r2 : ρ 2 = g := hρ 2 (by decide)
  have r3 : ρ 3 = U := hρ 3 (by decide)
  have r4 : ρ 4 = V := hρ 4 (by decide)
  have r5 : ρ 5 = W := hρ 5 (by decide)
  have r6 : ρ 6 = X := hρ 6 (by decide)
  have r7 : ρ 7 = pn := hρ 7 (by decide)
  have r8 : ρ 8 = pt := hρ 8 (by decide)
  have r9 : ρ 9 = pm := hρ 9 (by decide)
  have r10 : ρ 10 = qn := hρ 10 (by decide)
  have r11 : ρ 11 = qt := hρ 11 (by decide)
  have r12 : ρ 12 = qm := hρ 12 (by decide)
  have r13 : ρ 13 = rn := hρ 13 (by decide)
  have r14 : ρ 14 = rt := hρ 14 (by decide)
  have r15 : ρ 15 = rm := hρ 15 (by decide)
  obtain ⟨v1, hv1, hd1, hn1⟩ := nmd hd 0 rfl
  obtain ⟨v2, hv2, hd2, hn2⟩ := nmd hd 1 rfl
  obtain ⟨v3, hv3, hd3, hn3⟩ := nmd hd 2 rfl
  obtain ⟨v4, hv4, hd4, hn4⟩ := nmd hd 3 rfl
  obtain ⟨v5, hv5, hd5, hn5⟩ := nmd hd 4 rfl
  obtain ⟨v6, hv6, hd6, hn6⟩ := nmd hd 5 rfl
  obtain ⟨v7, hv7, hd7, hn7⟩ := nmd hd 6 rfl
  obtain ⟨v8, hv8, hd8, hn8⟩ := nmd hd 7 rfl
  obtain ⟨v9, hv9, hd9, hn9⟩ := nmd hd 8 rfl
  simp only [norm_i] at hn3
  simp (disch := omega) only [norm_i, a_P_0, a_P_1, F14, F17, F18, F38, Ent.nm_fn, r0, he, r1, hf1, r2, hg, r3, r4, r5, r6, r7, hpn, r8, r9, r10, hqn, r11, r12, r13, hrn, r14, r15, hv1, hv2, hn2, hv3, hn3, hv4, hv5, hv6, hn6, hv7, hv8, hv9, hn9, ewA, ewL, preC, binI, dvI, shI, cmpB, env, bi, List.headD, List.tail, List.map, Nat.reduceAdd, ewR, ewB, ewM, if_true, if_false, implies_true, forall_const, ne_eq, reduceCtorEq, Int.reduceEq, Int.reduceLT, Int.reduceLE, Int.reduceToNat, Int.reduceAdd, Int.reduceSub, Int.reduceMul, Int.reduceNeg, Int.reduceBEq, Nat.reduceLT, Nat.reduceEqDiff] at hd1 hd2 hd3 hd4 hd5 hd6 hd7 hd8 hd9
  have hSS := And.intro (And.intro (And.intro (And.intro (And.intro F14 F17) (And.intro F18 (And.intro F38 r0))) (And.intro (And.intro he r1) (And.intro hf1 (And.intro r2 hg)))) (And.intro (And.intro (And.intro r3 r4) (And.intro r5 (And.intro r6 r7))) (And.intro (And.intro hpn r8) (And.intro r9 (And.intro r10 hqn))))) (And.intro (And.intro (And.intro (And.intro r11 r12) (And.intro r13 (And.intro hrn r14))) (And.intro (And.intro r15 hv1) (And.intro hv2 (And.intro hn2 hv3)))) (And.intro (And.intro (And.intro hn3 hv4) (And.intro hv5 (And.intro hv6 hn6))) (And.intro (And.intro hv7 hv8) (And.intro hv9 (And.intro hn9 hDf)))))
  obtain ⟨⟨a1, a2, a3⟩, ⟨b1, b2, b3, b4⟩, ⟨c1, c2⟩, ⟨d1, d2⟩, h1, h2, h3⟩ := hp
  simp only [ewA, ewL, preC, binI, dvI, shI, cmpB, env, bi, List.headD, List.tail, List.map, Nat.reduceAdd] at a1 a2 a3 c1 c2
  replace b1 : dc U ++ dc V = dc W := b1
  replace b2 : dc X = dc W := b2
  replace b3 : rowsOK tmK (dc W) := b3
  replace b4 : ((dc W).length : Int) ≤ 100000 := b4
  replace d1 : dc pt = dc qt := d1
  replace d2 : dc rt = dc qt := d2
  replace h1 : QI pn (dc pt) (dc pm) := h1
  replace h2 : QI qn (dc qt) (dc qm) := h2
  replace h3 : QI rn (dc rt) (dc rm) := h3
  subst a1 a2 a3 c1 c2
  have hl := congrArg List.length b1
  rw [List.length_append] at hl
  have htm := h2.tim
  have l2 := h2.len
  have wU : IntKind.i64.wrap ((dc U).length : Int) = ((dc U).length : Int) := i64w (by omega) (by omega)
  have wV : IntKind.i64.wrap ((dc V).length : Int) = ((dc V).length : Int) := i64w (by omega) (by omega)
  have wUV : IntKind.i64.wrap (((dc U).length : Int) + ((dc V).length : Int)) = ((dc U).length : Int) + ((dc V).length : Int) := i64w (by omega) (by omega)
  simp (disch := omega) only [ewA, ewL, preC, binI, dvI, shI, cmpB, env, bi, List.headD, List.tail, List.map, Nat.reduceAdd, ewR, ewB, ewM, if_true, if_false, implies_true, forall_const, ne_eq, reduceCtorEq, Int.reduceEq, Int.reduceLT, Int.reduceLE, Int.reduceToNat, Int.reduceAdd, Int.reduceSub, Int.reduceMul, Int.reduceNeg, Int.reduceBEq, Nat.reduceLT, Nat.reduceEqDiff, wU, wV, wUV] at hd1 hd2 hd3 hd4 hd5 hd6 hd7 hd8 hd9
  obtain rfl : v4 = pt := hd4
  obtain rfl : v5 = qt := hd5
  obtain rfl : v7 = rt := hd7
  obtain rfl : v8 = v5 := hd8
  have dv1 : dc v1 = [] := by rw [hd1]; exact dc_cd _
  have eqB : ∀ x y : Int, dc x = dc y → K.b.norm (e18.fn 0 [x, y]) = 1 := fun x y h => by
    show K.b.norm (b2i (dc x == dc y)) = 1
    rw [h]; simp [b2i, K.norm]
  obtain ⟨Y, hY⟩ : ∃ Y, Y = cd (dc v1 ++ dc U ++ dc V) := ⟨_, rfl⟩
  have dY : dc Y = dc W := by rw [hY, dc_cd, dv1, List.nil_append, b1]
  have z2 : v2 = 1 := by rw [hd2, ← hY]; exact eqB _ _ dY
  have z6 : v6 = 1 := by rw [hd6]; exact eqB _ _ d1
  have z9 : v9 = 1 := by rw [hd9]; exact eqB _ _ d2
  have zX : K.b.norm (e18.fn 0 [X, W]) = 1 := eqB _ _ b2
  have z3 : v3 = rn := hd3.trans (i64w (by show -9223372036854775808 ≤ rn; omega) (by show rn ≤ _; omega))
  subst z2 z6 z9 z3
  have f14 : ∀ x y z, e14.fn 0 [x, y, z] = y := fun _ _ _ => rfl
  have f17 : ∀ x y z, e17.fn 0 [x, y, z] = x := fun _ _ _ => rfl
  refine ⟨?_, trivial⟩
  simp (disch := omega) only [ob_P, q_P_0, q_P_1, q_P_2, q_P_3, q_P_4, q_P_5, q_P_6, q_P_7, q_P_8, q_P_9, ewA, ewL, preC, binI, dvI, shI, cmpB, env, bi, List.headD, List.tail, List.map, Nat.reduceAdd, ewR, ewB, ewM, if_true, if_false, implies_true, forall_const, ne_eq, reduceCtorEq, Int.reduceEq, Int.reduceLT, Int.reduceLE, Int.reduceToNat, Int.reduceAdd, Int.reduceSub, Int.reduceMul, Int.reduceNeg, Int.reduceBEq, Nat.reduceLT, Nat.reduceEqDiff, hSS, wU, wV, wUV, ← hY, zX, f14, f17]
  have pr : ∀ x y : Int, dc x = dc y → rowsOK tmK (dc y) → ((dc y).length : Int) ≤ 100000 → e18.pre [x, y] := fun x y h1 h2 h3 => by
    have hc : ((dc y).length : Int) < cap8 := by unfold cap8; omega
    exact ⟨by show ((dc x).length : Int) < cap8; rw [h1]; exact hc, hc, by show rowsOK tmK (dc x); rw [h1]; exact h2, h2⟩
  refine ⟨⟨⟨by omega, by omega⟩, ⟨by show 0 ≤ 0 + ((dc U).length : Int) + ((dc V).length : Int); omega, by show 0 + ((dc U).length : Int) + ((dc V).length : Int) ≤ 100000; omega⟩, by rw [dv1, List.nil_append]; omega, by rw [dY]; omega⟩, pr _ _ dY b3 b4, pr _ _ b2 b3 b4, trivial, trivial, trivial, trivial, h1, h2, pr _ _ d1 h2.row (by omega), h3, h2, pr _ _ d2 h2.row (by omega)⟩

theorem cX11ok : cX11m.OK Try.prog G0 := Ctx.OK.addL (c := ⟨[e12.nm, e13.nm, e15, e17.nm, e24.nm], [(11, pP, leP.nm)]⟩) (Ctx.OK.addL (c := ⟨[e12.nm, e13.nm, e15, e17.nm, e24.nm], []⟩) (((((Ctx.OK.nil.addF (e := e24.nm) ok24 rfl).addF (e := e17.nm) ok17 rfl).addF ok15 rfl).addF (e := e13.nm) ok13 rfl).addF (e := e12.nm) ok12 rfl) (CodeOK.nm okP.1) rfl) (CodeOK.nm okLS.1) rfl

set_option maxHeartbeats 4000000 in
theorem ok11p : EntryOK Try.prog G0 e11 ∧ PostOK e11 postTT := by
  refine cX11ok.entryH mixed ev_11 (by kernel_rfl) _ rfl fun xs hf hp => ?_
  obtain ⟨l, hl, hF⟩ := ctx_P (l0 := cX11m.l)
  show ∃ ρ : Nat → Int, _ ∧ ob_11.tt cX11m.l.F ρ = true ∧ postTT xs (es_11.map (E.den cX11m.l.F ρ))
  rw [hl]
  have F15 := FC (k := 15) rfl (hF e15 (by rfl) (by decide))
  have F12 := FC (k := 100000012) rfl (hF e12.nm (by rfl) (by decide))
  have F13 := FC (k := 100000013) rfl (hF e13.nm (by rfl) (by decide))
  have F17 := FC (k := 100000017) rfl (hF e17.nm (by rfl) (by decide))
  have F24 := FC (k := 100000024) rfl (hF e24.nm (by rfl) (by decide))
  have F9011 := FC (k := 100009011) rfl (hF leS.nm.ent (by rfl) (by decide))
  have F9111 := FC (k := 100009111) rfl (hF leP.nm.ent (by rfl) (by decide))
  replace hf : fits [(.i .i64), .x, (.i .i64), (.i .i64)] xs := hf
  obtain ⟨t, xs0, hx0, ht, hf0⟩ := fits_cons hf
  obtain ⟨A, xs1, hx1, hA, hf1⟩ := fits_cons hf0
  obtain ⟨a, xs2, hx2, ha, hf2⟩ := fits_cons hf1
  obtain ⟨b, xs3, hx3, hb, hf3⟩ := fits_cons hf2
  have hxn := fits_nil hf3
  subst hxn hx3 hx2 hx1 hx0
  simp only [norm_i] at ht ha hb
  obtain ⟨ρ, hρ, hd⟩ := solve (F := l.F) 4 defs_11 (by kernel_rfl) [t, A, a, b]
  have hDf := dE_tt (by kernel_rfl) hd
  refine ⟨ρ, hρ, ?_⟩
  have r0 : ρ 0 = t := hρ 0 (by decide)
  have r1 : ρ 1 = A := hρ 1 (by decide)
  have r2 : ρ 2 = a := hρ 2 (by decide)
  have r3 : ρ 3 = b := hρ 3 (by decide)
  obtain ⟨v1, hv1, hd1, hn1⟩ := nmd hd 0 rfl
  obtain ⟨v2, hv2, hd2, hn2⟩ := nmd hd 1 rfl
  obtain ⟨v3, hv3, hd3, hn3⟩ := nmd hd 2 rfl
  obtain ⟨v4, hv4, hd4, hn4⟩ := nmd hd 3 rfl
  obtain ⟨v5, hv5, hd5, hn5⟩ := nmd hd 4 rfl
  obtain ⟨v6, hv6, hd6, hn6⟩ := nmd hd 5 rfl
  obtain ⟨v7, hv7, hd7, hn7⟩ := nmd hd 6 rfl
  obtain ⟨v8, hv8, hd8, hn8⟩ := nmd hd 7 rfl
  obtain ⟨v9, hv9, hd9, hn9⟩ := nmd hd 8 rfl
  obtain ⟨v10, hv10, hd10, hn10⟩ := nmd hd 9 rfl
  obtain ⟨v11, hv11, hd11, hn11⟩ := nmd hd 10 rfl
  obtain ⟨v12, hv12, hd12, hn12⟩ := nmd hd 11 rfl
  obtain ⟨v13, hv13, hd13, hn13⟩ := nmd hd 12 rfl
  obtain ⟨v14, hv14, hd14, hn14⟩ := nmd hd 13 rfl
  obtain ⟨v15, hv15, hd15, hn15⟩ := nmd hd 14 rfl
  obtain ⟨v16, hv16, hd16, hn16⟩ := nmd hd 15 rfl
  obtain ⟨v17, hv17, hd17, hn17⟩ := nmd hd 16 rfl
  obtain ⟨v18, hv18, hd18, hn18⟩ := nmd hd 17 rfl
  obtain ⟨v19, hv19, hd19, hn19⟩ := nmd hd 18 rfl
  obtain ⟨v20, hv20, hd20, hn20⟩ := nmd hd 19 rfl
  obtain ⟨v21, hv21, hd21, hn21⟩ := nmd hd 20 rfl
  obtain ⟨v22, hv22, hd22, hn22⟩ := nmd hd 21 rfl
  obtain ⟨v23, hv23, hd23, hn23⟩ := nmd hd 22 rfl
  obtain ⟨v24, hv24, hd24, hn24⟩ := nmd hd 23 rfl
  obtain ⟨v25, hv25, hd25, hn25⟩ := nmd hd 24 rfl
  obtain ⟨v26, hv26, hd26, hn26⟩ := nmd hd 25 rfl
  obtain ⟨v27, hv27, hd27, hn27⟩ := nmd hd 26 rfl
  obtain ⟨v28, hv28, hd28, hn28⟩ := nmd hd 27 rfl
  obtain ⟨v29, hv29, hd29, hn29⟩ := nmd hd 28 rfl
  obtain ⟨v30, hv30, hd30, hn30⟩ := nmd hd 29 rfl
  obtain ⟨v31, hv31, hd31, hn31⟩ := nmd hd 30 rfl
  simp only [norm_i] at hn1 hn4 hn7 hn10 hn11 hn15 hn16 hn17 hn21 hn22 hn23 hn27 hn28
  simp (disch := omega) only [norm_i, a_11_0, a_11_1, a_11_2, a_11_3, F13, F17, F24, F9011, Ent.nm_fn, r0, ht, r1, r2, ha, r3, hb, hv1, hn1, hv2, hv3, hv4, hn4, hv5, hv6, hv7, hn7, hv8, hv9, hv10, hn10, hv11, hn11, hv12, hv13, hv14, hv15, hn15, hv16, hn16, hv17, hn17, hv18, hv19, hv20, hv21, hn21, hv22, hn22, hv23, hn23, hv24, hv25, hv26, hv27, hn27, hv28, hn28, hv29, hv30, hv31, ewA, ewL, preC, binI, dvI, shI, cmpB, env, bi, List.headD, List.tail, List.map, Nat.reduceAdd, ewR, ewB, ewM, if_true, if_false, implies_true, forall_const, ne_eq, reduceCtorEq, Int.reduceEq, Int.reduceLT, Int.reduceLE, Int.reduceToNat, Int.reduceAdd, Int.reduceSub, Int.reduceMul, Int.reduceNeg, Int.reduceBEq, Nat.reduceLT, Nat.reduceEqDiff] at hd1 hd2 hd3 hd4 hd5 hd6 hd7 hd8 hd9 hd10 hd11 hd12 hd13 hd14 hd15 hd16 hd17 hd18 hd19 hd20 hd21 hd22 hd23 hd24 hd25 hd26 hd27 hd28 hd29 hd30 hd31
  have hSS := And.intro (And.intro (And.intro (And.intro (And.intro F15 (And.intro F12 F13)) (And.intro (And.intro F17 F24) (And.intro F9011 F9111))) (And.intro (And.intro r0 (And.intro ht r1)) (And.intro (And.intro r2 ha) (And.intro r3 hb)))) (And.intro (And.intro (And.intro hv1 (And.intro hn1 hv2)) (And.intro (And.intro hv3 hv4) (And.intro hn4 hv5))) (And.intro (And.intro (And.intro hv6 hv7) (And.intro hn7 hv8)) (And.intro (And.intro hv9 hv10) (And.intro hn10 hv11))))) (And.intro (And.intro (And.intro (And.intro hn11 (And.intro hv12 hv13)) (And.intro (And.intro hv14 hv15) (And.intro hn15 hv16))) (And.intro (And.intro (And.intro hn16 hv17) (And.intro hn17 hv18)) (And.intro (And.intro hv19 hv20) (And.intro hv21 hn21)))) (And.intro (And.intro (And.intro hv22 (And.intro hn22 hv23)) (And.intro (And.intro hn23 hv24) (And.intro hv25 hv26))) (And.intro (And.intro (And.intro hv27 hn27) (And.intro hv28 hn28)) (And.intro (And.intro hv29 hv30) (And.intro hv31 hDf)))))
  obtain ⟨p1, p2⟩ := hp
  have y13 : e13.pre [t, A] := ⟨p1, p2⟩
  have y12 : e12.pre [] := trivial
  obtain ⟨m1, m2, _⟩ := madM_ok t (dc A)
  obtain ⟨N, hN⟩ : ∃ N, N = (madM t (dc A)).1 := ⟨_, rfl⟩
  obtain ⟨C, hC⟩ : ∃ C, C = (madM t (dc A)).2.1 := ⟨_, rfl⟩
  obtain ⟨D, hD⟩ : ∃ D, D = (madM t (dc A)).2.2 := ⟨_, rfl⟩
  rw [← hN, ← hC, ← hD] at m1
  rw [← hN] at m2
  have g15 : ∀ x, IntKind.i64.wrap (l.F 15 0 [x, 700]) = x % 700 := fun x => by
    rw [F15.1]
    show IntKind.i64.wrap (x % 700) = _
    exact i64w (by omega) (by omega)
  obtain ⟨al, hal⟩ : ∃ al, al = a % 700 := ⟨_, rfl⟩
  obtain ⟨be, hbe⟩ : ∃ be, be = b % 700 := ⟨_, rfl⟩
  have ga : IntKind.i64.wrap (l.F 15 0 [a, 700]) = al := (g15 a).trans hal.symm
  have gb : IntKind.i64.wrap (l.F 15 0 [b, 700]) = be := (g15 b).trans hbe.symm
  have ra : 0 ≤ al ∧ al < 700 := by rw [hal]; exact ⟨Int.emod_nonneg a (by decide), Int.emod_lt_of_pos a (by decide)⟩
  have rb : 0 ≤ be ∧ be < 700 := by rw [hbe]; exact ⟨Int.emod_nonneg b (by decide), Int.emod_lt_of_pos b (by decide)⟩
  obtain ⟨wN, wal, wab, wbe, ⟨k1, k2⟩, yS⟩ := split_w m1 m2 ra rb
  have x0 : e13.fn 0 [t, A] = N := hN.symm
  have x1 : e13.fn 1 [t, A] = C := hC.symm
  have x2 : e13.fn 2 [t, A] = D := hD.symm
  rw [x0, wN] at hd1 hd4 hd7
  rw [x1] at hd2 hd5 hd8
  rw [x2] at hd3 hd6 hd9
  subst hd1 hd2 hd3 hd4 hd5 hd6 hd7 hd8 hd9
  have e10 : v10 = v7 := hd10.trans wN
  have e22 : v22 = v7 := hd22.trans wN
  simp only [e10, e22, ga, gb, wal, wab, wbe] at hd11 hd12 hd13 hd14 hd15 hd23 hd24 hd25 hd26 hd27 hd28 hd29 hd30 hd31
  have e16 : v16 = v11 := hd16.trans hn11
  have q1 : v11 = v7 + al := (to1 m1 k1 k2 ⟨hd11, hd12, hd13, hd14, hd15, trivial⟩).1
  simp only [e16, gb] at hd17 hd18 hd19 hd20 hd21
  rw [show v11 + be = v7 + al + be by rw [q1], wbe] at hd17 hd18 hd19 hd20 hd21
  have u := (PostOK.use (ks := [(.i .i64), .x, .x, .x, (.i .i64), (.i .i64)]) (os := [(.i .i64), .x, .x, .x]) (vs := [v28, v29, v30, v31]) okLS.2 rfl rfl ⟨hd28, hd29, hd30, hd31, trivial⟩) ⟨wN, rfl, rfl, rfl, wab, rfl, trivial⟩ yS
  obtain ⟨yP, yQ⟩ := split_p m1 m2 ra rb ⟨hd11, hd12, hd13, hd14, hd15, trivial⟩ ⟨hd17, hd18, hd19, hd20, hd21, trivial⟩ ⟨hd23, hd24, hd25, hd26, hd27, trivial⟩ u
  have y15 : ∀ x, e15.pre [x, 700] := fun x => ⟨by show (0 : Int) < 700; decide, by show (700 : Int) ≤ _; decide⟩
  have ga' : IntKind.i64.wrap (e15.fn 0 [a, 700]) = al := by rw [← F15.1]; exact ga
  have gb' : IntKind.i64.wrap (e15.fn 0 [b, 700]) = be := by rw [← F15.1]; exact gb
  refine ⟨?_, trivial⟩
  simp (disch := omega) only [ob_11, ewA, ewL, preC, binI, dvI, shI, cmpB, env, bi, List.headD, List.tail, List.map, Nat.reduceAdd, ewR, ewB, ewM, if_true, if_false, implies_true, forall_const, ne_eq, reduceCtorEq, Int.reduceEq, Int.reduceLT, Int.reduceLE, Int.reduceToNat, Int.reduceAdd, Int.reduceSub, Int.reduceMul, Int.reduceNeg, Int.reduceBEq, Nat.reduceLT, Nat.reduceEqDiff, hSS]
  exact ⟨y12, y13, y13, y13, ⟨y15 a, y15 b⟩, ⟨trivial, m1⟩, ⟨trivial, yQ⟩, ⟨trivial, m1⟩, by rw [ga', gb']; exact yS, yP⟩

theorem ok11 : EntryOK Try.prog G0 e11 := ok11p.1

end
end Go.Proofs.Ytmolkkphnehgcaa.Ew
