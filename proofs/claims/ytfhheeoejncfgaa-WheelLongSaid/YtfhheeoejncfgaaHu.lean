/- Layer 18: WheelLong. -/
import Derived.Test.YtfhheeoejncfgaaHo
set_option linter.unusedVariables false
set_option linter.unusedSimpArgs false
namespace Go.Proofs.Ytfhheeoejncfgaa.Ew
open Go Go.RowKit
noncomputable section
--P Try.prog G0

/-- A list of six numbers. -/
def six (D : Int) : Prop := (dc D).length = 6 ∧ rowsOK intK (dc D)
def six0 (D : Int) (j : Nat) : Int := gC (dc D) j 0
/-- Six timers, of these deadlines, none of them due; so many moves at most. -/
def WL6 (S now bu le mo T D m : Int) (n : Nat) : Prop := ∃ d, WV S now bu le mo T 6 d [] ∧ NN (dc T) ∧ mo + lvSum (dc T) 6 ≤ m ∧ bu = 1 ∧ ∀ j : Nat, j < n → d j = six0 D j
def preL1 (xs : List Int) : Prop := WL6 (env xs 0) (env xs 1) (env xs 2) (env xs 3) (env xs 4) (env xs 5) (env xs 6) (2 * env xs 8) (env xs 8).toNat ∧ six (env xs 6) ∧ (∀ j : Nat, j < 6 → 196606 < six0 (env xs 6) j ∧ six0 (env xs 6) j ≤ 336605) ∧ env xs 7 = 6 ∧ 0 ≤ env xs 8 ∧ env xs 8 ≤ 6 ∧ env xs 1 = 196606
def postL1 (xs ys : List Int) : Prop := WL6 (env ys 0) (env ys 1) (env ys 2) (env ys 3) (env ys 4) (env ys 5) (env xs 6) 12 6 ∧ env ys 1 = 196606
/-- The timers of a list, from an index on, are due now. -/
def preL3 (xs : List Int) : Prop := (∃ c, WE (env xs 0) (env xs 1) (env xs 2) (env xs 3) (env xs 4) (env xs 5) c) ∧ six (env xs 6) ∧ (∃ l : List Nat, dc (env xs 7) = l.map (fun i : Nat => [(i : Int)]) ∧ l.Nodup ∧ (l.length : Int) = env xs 8 ∧ l.length ≤ 6 ∧ ∀ j ∈ l.drop (env xs 9).toNat, j < 6 ∧ six0 (env xs 6) j = env xs 1) ∧ 0 ≤ env xs 9 ∧ env xs 9 ≤ env xs 8
def postL3 (xs ys : List Int) : Prop := six (env ys 0) ∧ ∀ l : List Nat, dc (env xs 7) = l.map (fun i : Nat => [(i : Int)]) → ∀ j : Nat, six0 (env ys 0) j = if j ∈ l.drop (env xs 9).toNat then 0 else six0 (env xs 6) j
def preL2 (xs : List Int) : Prop := WL6 (env xs 0) (env xs 1) (env xs 2) (env xs 3) (env xs 4) (env xs 5) (env xs 6) 12 6 ∧ six (env xs 6) ∧ (∀ j : Nat, j < 6 → six0 (env xs 6) j ≤ 336605) ∧ env xs 1 = 196606 + env xs 7 ∧ 0 ≤ env xs 7 ∧ env xs 7 ≤ 140000
def postL2 (xs ys : List Int) : Prop := WE (env ys 0) (env ys 1) (env ys 2) (env ys 3) (env ys 4) (env ys 5) 6 ∧ env ys 4 ≤ 12 ∧ env ys 3 = 0 ∧ dc (env ys 6) = List.replicate 6 [0]
def muL1 (xs : List Int) : Nat := (env xs 7 - env xs 8).toNat
def pL1 : List Bool := [true,true,true,true,true,false,true,false]
def lbL1 : LEnt := ⟨⟨9003, 999999, [wsh, lio, i64, i64], [wob], [2], .tup [], z0, preL1⟩, [2, 31, 32, 33], [], [5, 6] ++ (List.range 11).map (· + 33), [.ex 0], 114, []⟩
def cL1 : Ctx := ⟨[e14], []⟩
def cL1n : Ctx := cL1.nm

def defs_L1 : List (Nat × E) := [(640000089607488, (.app .x 100000014 0 [(.var .x 0), (.var (.i .i64) 1), (.var (.i .i64) 2), (.var (.i .i64) 3), (.var (.i .i64) 4), (.var .x 5), (.var (.i .i64) 8), (.app (.i .i64) 0 1 [(.var .x 6), (.var (.i .i64) 8), (.lit .x 0)])])),
  (640000089607489, (.app (.i .i64) 100000014 1 [(.var .x 0), (.var (.i .i64) 1), (.var (.i .i64) 2), (.var (.i .i64) 3), (.var (.i .i64) 4), (.var .x 5), (.var (.i .i64) 8), (.app (.i .i64) 0 1 [(.var .x 6), (.var (.i .i64) 8), (.lit .x 0)])])),
  (640000089607490, (.app (.i .i64) 100000014 2 [(.var .x 0), (.var (.i .i64) 1), (.var (.i .i64) 2), (.var (.i .i64) 3), (.var (.i .i64) 4), (.var .x 5), (.var (.i .i64) 8), (.app (.i .i64) 0 1 [(.var .x 6), (.var (.i .i64) 8), (.lit .x 0)])])),
  (640000089607491, (.app (.i .i64) 100000014 3 [(.var .x 0), (.var (.i .i64) 1), (.var (.i .i64) 2), (.var (.i .i64) 3), (.var (.i .i64) 4), (.var .x 5), (.var (.i .i64) 8), (.app (.i .i64) 0 1 [(.var .x 6), (.var (.i .i64) 8), (.lit .x 0)])])),
  (640000089607492, (.app (.i .i64) 100000014 4 [(.var .x 0), (.var (.i .i64) 1), (.var (.i .i64) 2), (.var (.i .i64) 3), (.var (.i .i64) 4), (.var .x 5), (.var (.i .i64) 8), (.app (.i .i64) 0 1 [(.var .x 6), (.var (.i .i64) 8), (.lit .x 0)])])),
  (640000089607493, (.app .x 100000014 5 [(.var .x 0), (.var (.i .i64) 1), (.var (.i .i64) 2), (.var (.i .i64) 3), (.var (.i .i64) 4), (.var .x 5), (.var (.i .i64) 8), (.app (.i .i64) 0 1 [(.var .x 6), (.var (.i .i64) 8), (.lit .x 0)])])),
  (640000089607494, (.app (.i .i64) 100000014 6 [(.var .x 0), (.var (.i .i64) 1), (.var (.i .i64) 2), (.var (.i .i64) 3), (.var (.i .i64) 4), (.var .x 5), (.var (.i .i64) 8), (.app (.i .i64) 0 1 [(.var .x 6), (.var (.i .i64) 8), (.lit .x 0)])]))]
def q_L1_0 : E := (.and (.cmp .lss (.var (.i .i64) 8) (.var (.i .i64) 7)) (.not (.cmp .neq (.var (.i .i64) 640000089607494) (.lit (.i .i64) 0))))
def ob_L1 : E := (.and (.and (.or (.not (.cmp .lss (.var (.i .i64) 8) (.var (.i .i64) 7))) (.and (.and (.cmp .geq (.var (.i .i64) 8) (.lit (.i .i64) 0)) (.cmp .lss (.var (.i .i64) 8) (.app (.i .i64) 0 0 [(.var .x 6)]))) (.and (.app .b 100000014 1000000 [(.var .x 0), (.var (.i .i64) 1), (.var (.i .i64) 2), (.var (.i .i64) 3), (.var (.i .i64) 4), (.var .x 5), (.var (.i .i64) 8), (.app (.i .i64) 0 1 [(.var .x 6), (.var (.i .i64) 8), (.lit .x 0)])]) (dE defs_L1 0 7)))) (.or (.not q_L1_0) (.app .b 9003 1000000 [(.var .x 640000089607488), (.var (.i .i64) 640000089607489), (.var (.i .i64) 640000089607490), (.var (.i .i64) 640000089607491), (.var (.i .i64) 640000089607492), (.var .x 640000089607493), (.var .x 6), (.var (.i .i64) 7), (.bin .add .i64 (.var (.i .i64) 8) (.lit (.i .i64) 1))]))) (.and (.or (.not (.or (.not (.cmp .lss (.var (.i .i64) 8) (.var (.i .i64) 7))) q_L1_0)) (.ite (.not (.cmp .lss (.var (.i .i64) 8) (.var (.i .i64) 7))) (.not (.cmp .lss (.var (.i .i64) 8) (.var (.i .i64) 7))) (.cmp .lss (.var (.i .i64) 8) (.var (.i .i64) 7)))) (.not (.and (.cmp .lss (.var (.i .i64) 8) (.var (.i .i64) 7)) (.cmp .neq (.var (.i .i64) 640000089607494) (.lit (.i .i64) 0))))))
def es_L1 : List E := [(.ite (.not (.cmp .lss (.var (.i .i64) 8) (.var (.i .i64) 7))) (.var .x 0) (.app .x 9003 0 [(.var .x 640000089607488), (.var (.i .i64) 640000089607489), (.var (.i .i64) 640000089607490), (.var (.i .i64) 640000089607491), (.var (.i .i64) 640000089607492), (.var .x 640000089607493), (.var .x 6), (.var (.i .i64) 7), (.bin .add .i64 (.var (.i .i64) 8) (.lit (.i .i64) 1))])), (.ite (.not (.cmp .lss (.var (.i .i64) 8) (.var (.i .i64) 7))) (.var (.i .i64) 1) (.app (.i .i64) 9003 1 [(.var .x 640000089607488), (.var (.i .i64) 640000089607489), (.var (.i .i64) 640000089607490), (.var (.i .i64) 640000089607491), (.var (.i .i64) 640000089607492), (.var .x 640000089607493), (.var .x 6), (.var (.i .i64) 7), (.bin .add .i64 (.var (.i .i64) 8) (.lit (.i .i64) 1))])), (.ite (.not (.cmp .lss (.var (.i .i64) 8) (.var (.i .i64) 7))) (.var (.i .i64) 2) (.app (.i .i64) 9003 2 [(.var .x 640000089607488), (.var (.i .i64) 640000089607489), (.var (.i .i64) 640000089607490), (.var (.i .i64) 640000089607491), (.var (.i .i64) 640000089607492), (.var .x 640000089607493), (.var .x 6), (.var (.i .i64) 7), (.bin .add .i64 (.var (.i .i64) 8) (.lit (.i .i64) 1))])), (.ite (.not (.cmp .lss (.var (.i .i64) 8) (.var (.i .i64) 7))) (.var (.i .i64) 3) (.app (.i .i64) 9003 3 [(.var .x 640000089607488), (.var (.i .i64) 640000089607489), (.var (.i .i64) 640000089607490), (.var (.i .i64) 640000089607491), (.var (.i .i64) 640000089607492), (.var .x 640000089607493), (.var .x 6), (.var (.i .i64) 7), (.bin .add .i64 (.var (.i .i64) 8) (.lit (.i .i64) 1))])), (.ite (.not (.cmp .lss (.var (.i .i64) 8) (.var (.i .i64) 7))) (.var (.i .i64) 4) (.app (.i .i64) 9003 4 [(.var .x 640000089607488), (.var (.i .i64) 640000089607489), (.var (.i .i64) 640000089607490), (.var (.i .i64) 640000089607491), (.var (.i .i64) 640000089607492), (.var .x 640000089607493), (.var .x 6), (.var (.i .i64) 7), (.bin .add .i64 (.var (.i .i64) 8) (.lit (.i .i64) 1))])), (.ite (.not (.cmp .lss (.var (.i .i64) 8) (.var (.i .i64) 7))) (.var .x 5) (.app .x 9003 5 [(.var .x 640000089607488), (.var (.i .i64) 640000089607489), (.var (.i .i64) 640000089607490), (.var (.i .i64) 640000089607491), (.var (.i .i64) 640000089607492), (.var .x 640000089607493), (.var .x 6), (.var (.i .i64) 7), (.bin .add .i64 (.var (.i .i64) 8) (.lit (.i .i64) 1))]))]
def leL1 : LEnt := lbL1.fw (fnL lbL1 cL1n.l ob_L1 es_L1 postL1 muL1)
theorem ev_L1 : evL Try.prog G0 (tabOf cL1n.fs) (evFn Try.prog G0 (tabOf cL1n.fs) (ltOf cL1n.ls) 40 10) 40 (subL cL1n.ls 3 pL1) leL1 (bodyAt Try.prog 3 pL1) = some (ob_L1, es_L1) := by kernel_rfl

def pL3 : List Bool := [true,true,true,true,true,true,false,true,false,false,true,true,false,false,true,true,true,false,true,false]
def muL3 (xs : List Int) : Nat := (env xs 8 - env xs 9).toNat
def lbL3 : LEnt := ⟨⟨9303, 999999, [wsh, lio, lio, i64, i64], [], [0, 1], .tup [lio], z0, preL3⟩, [2, 4, 65, 66, 67], [4], [12] ++ (List.range 23).map (· + 67), [.ex 4], 114, []⟩
def cL3 : Ctx := ⟨[e18], []⟩
def cL3n : Ctx := cL3.nm

def defs_L3 : List (Nat × E) := [(640000115213696, (.app (.i .i64) 100000018 0 [(.var .x 0), (.var (.i .i64) 1), (.var (.i .i64) 2), (.var (.i .i64) 3), (.var (.i .i64) 4), (.var .x 5)]))]
def q_L3_0 : E := (.or (.cmp .lss (.app (.i .i64) 0 1 [(.var .x 7), (.var (.i .i64) 9), (.lit .x 0)]) (.lit (.i .i64) 0)) (.cmp .gtr (.app (.i .i64) 0 1 [(.var .x 7), (.var (.i .i64) 9), (.lit .x 0)]) (.lit (.i .i64) 5)))
def q_L3_1 : E := (.and (.cmp .geq (.app (.i .i64) 0 1 [(.var .x 7), (.var (.i .i64) 9), (.lit .x 0)]) (.lit (.i .i64) 0)) (.cmp .lss (.app (.i .i64) 0 1 [(.var .x 7), (.var (.i .i64) 9), (.lit .x 0)]) (.app (.i .i64) 0 0 [(.var .x 6)])))
def q_L3_2 : E := (.or q_L3_0 q_L3_1)
def q_L3_3 : E := (.or q_L3_0 (.cmp .neq (.app (.i .i64) 0 1 [(.var .x 6), (.app (.i .i64) 0 1 [(.var .x 7), (.var (.i .i64) 9), (.lit .x 0)]), (.lit .x 0)]) (.var (.i .i64) 640000115213696)))
def q_L3_4 : E := (.and (.cmp .lss (.var (.i .i64) 9) (.var (.i .i64) 8)) (.not q_L3_3))
def q_L3_5 : E := (.app .x 0 6 [(.var .x 6), (.app (.i .i64) 0 1 [(.var .x 7), (.var (.i .i64) 9), (.lit .x 0)]), (.lit .x 0), (.lit (.i .i64) 0)])
def ob_L3 : E := (.and (.and (.or (.not (.cmp .lss (.var (.i .i64) 9) (.var (.i .i64) 8))) (.and (.and (.cmp .geq (.var (.i .i64) 9) (.lit (.i .i64) 0)) (.cmp .lss (.var (.i .i64) 9) (.app (.i .i64) 0 0 [(.var .x 7)]))) (.and (.and q_L3_2 (.and q_L3_2 (.or q_L3_0 (.and (.app .b 100000018 1000000 [(.var .x 0), (.var (.i .i64) 1), (.var (.i .i64) 2), (.var (.i .i64) 3), (.var (.i .i64) 4), (.var .x 5)]) (dE defs_L3 0 1))))) (.or q_L3_3 q_L3_1)))) (.or (.not q_L3_4) (.app .b 9303 1000000 [(.var .x 0), (.var (.i .i64) 1), (.var (.i .i64) 2), (.var (.i .i64) 3), (.var (.i .i64) 4), (.var .x 5), q_L3_5, (.var .x 7), (.var (.i .i64) 8), (.bin .add .i64 (.var (.i .i64) 9) (.lit (.i .i64) 1))]))) (.and (.or (.not (.or (.not (.cmp .lss (.var (.i .i64) 9) (.var (.i .i64) 8))) q_L3_4)) (.ite (.not (.cmp .lss (.var (.i .i64) 9) (.var (.i .i64) 8))) (.not (.cmp .lss (.var (.i .i64) 9) (.var (.i .i64) 8))) (.cmp .lss (.var (.i .i64) 9) (.var (.i .i64) 8)))) (.not (.and (.cmp .lss (.var (.i .i64) 9) (.var (.i .i64) 8)) q_L3_3))))
def es_L3 : List E := [(.ite (.not (.cmp .lss (.var (.i .i64) 9) (.var (.i .i64) 8))) (.var .x 6) (.app .x 9303 0 [(.var .x 0), (.var (.i .i64) 1), (.var (.i .i64) 2), (.var (.i .i64) 3), (.var (.i .i64) 4), (.var .x 5), q_L3_5, (.var .x 7), (.var (.i .i64) 8), (.bin .add .i64 (.var (.i .i64) 9) (.lit (.i .i64) 1))]))]
def leL3 : LEnt := lbL3.fw (fnL lbL3 cL3n.l ob_L3 es_L3 postL3 muL3)
theorem ev_L3 : evL Try.prog G0 (tabOf cL3n.fs) (evFn Try.prog G0 (tabOf cL3n.fs) (ltOf cL3n.ls) 40 10) 40 (subL cL3n.ls 3 pL3) leL3 (bodyAt Try.prog 3 pL3) = some (ob_L3, es_L3) := by kernel_rfl

def pL2 : List Bool := [true,true,true,true,true,true,false,true,false]
def muL2 (xs : List Int) : Nat := (140000 - env xs 7).toNat
def lbL2 : LEnt := ⟨⟨9203, 999999, [wsh, lio, i64], [wob], [], .tup [lio], z0, preL2⟩, [2, 4, 44], [4], [7, 8, 9, 10] ++ [12] ++ (List.range 54).map (· + 44), [.ex 2], 114, []⟩
def cL2 : Ctx := ⟨[e15, e16, e17], [(3, pL3, leL3)]⟩
def cL2n : Ctx := cL2.nm

def defs_L2 : List (Nat × E) := [(640000096007488, (.app .x 100000015 0 [(.var .x 0), (.var (.i .i64) 1), (.var (.i .i64) 2), (.var (.i .i64) 3), (.var (.i .i64) 4), (.var .x 5)])),
  (640000096007489, (.app (.i .i64) 100000015 1 [(.var .x 0), (.var (.i .i64) 1), (.var (.i .i64) 2), (.var (.i .i64) 3), (.var (.i .i64) 4), (.var .x 5)])),
  (640000096007490, (.app (.i .i64) 100000015 2 [(.var .x 0), (.var (.i .i64) 1), (.var (.i .i64) 2), (.var (.i .i64) 3), (.var (.i .i64) 4), (.var .x 5)])),
  (640000096007491, (.app (.i .i64) 100000015 3 [(.var .x 0), (.var (.i .i64) 1), (.var (.i .i64) 2), (.var (.i .i64) 3), (.var (.i .i64) 4), (.var .x 5)])),
  (640000096007492, (.app (.i .i64) 100000015 4 [(.var .x 0), (.var (.i .i64) 1), (.var (.i .i64) 2), (.var (.i .i64) 3), (.var (.i .i64) 4), (.var .x 5)])),
  (640000096007493, (.app .x 100000015 5 [(.var .x 0), (.var (.i .i64) 1), (.var (.i .i64) 2), (.var (.i .i64) 3), (.var (.i .i64) 4), (.var .x 5)])),
  (640000096007494, (.app (.i .i64) 100000015 6 [(.var .x 0), (.var (.i .i64) 1), (.var (.i .i64) 2), (.var (.i .i64) 3), (.var (.i .i64) 4), (.var .x 5)])),
  (640000102408000, (.app (.i .i64) 100000016 0 [(.var .x 640000096007488), (.var (.i .i64) 640000096007489), (.var (.i .i64) 640000096007490), (.var (.i .i64) 640000096007491), (.var (.i .i64) 640000096007492), (.var .x 640000096007493)])),
  (640000108808000, (.app .x 100000017 0 [(.var .x 640000096007488), (.var (.i .i64) 640000096007489), (.var (.i .i64) 640000096007490), (.var (.i .i64) 640000096007491), (.var (.i .i64) 640000096007492), (.var .x 640000096007493), (.lit (.i .i64) 6)])),
  (640000108808001, (.app (.i .i64) 100000017 1 [(.var .x 640000096007488), (.var (.i .i64) 640000096007489), (.var (.i .i64) 640000096007490), (.var (.i .i64) 640000096007491), (.var (.i .i64) 640000096007492), (.var .x 640000096007493), (.lit (.i .i64) 6)])),
  (640000108808002, (.app (.i .i64) 100000017 2 [(.var .x 640000096007488), (.var (.i .i64) 640000096007489), (.var (.i .i64) 640000096007490), (.var (.i .i64) 640000096007491), (.var (.i .i64) 640000096007492), (.var .x 640000096007493), (.lit (.i .i64) 6)])),
  (640000108808003, (.app (.i .i64) 100000017 3 [(.var .x 640000096007488), (.var (.i .i64) 640000096007489), (.var (.i .i64) 640000096007490), (.var (.i .i64) 640000096007491), (.var (.i .i64) 640000096007492), (.var .x 640000096007493), (.lit (.i .i64) 6)])),
  (640000108808004, (.app (.i .i64) 100000017 4 [(.var .x 640000096007488), (.var (.i .i64) 640000096007489), (.var (.i .i64) 640000096007490), (.var (.i .i64) 640000096007491), (.var (.i .i64) 640000096007492), (.var .x 640000096007493), (.lit (.i .i64) 6)])),
  (640000108808005, (.app .x 100000017 5 [(.var .x 640000096007488), (.var (.i .i64) 640000096007489), (.var (.i .i64) 640000096007490), (.var (.i .i64) 640000096007491), (.var (.i .i64) 640000096007492), (.var .x 640000096007493), (.lit (.i .i64) 6)])),
  (640000108808006, (.app .x 100000017 6 [(.var .x 640000096007488), (.var (.i .i64) 640000096007489), (.var (.i .i64) 640000096007490), (.var (.i .i64) 640000096007491), (.var (.i .i64) 640000096007492), (.var .x 640000096007493), (.lit (.i .i64) 6)])),
  (640000108808007, (.app (.i .i64) 100000017 7 [(.var .x 640000096007488), (.var (.i .i64) 640000096007489), (.var (.i .i64) 640000096007490), (.var (.i .i64) 640000096007491), (.var (.i .i64) 640000096007492), (.var .x 640000096007493), (.lit (.i .i64) 6)])),
  (640059539208512, (.app .x 100009303 0 [(.var .x 640000108808000), (.var (.i .i64) 640000108808001), (.var (.i .i64) 640000108808002), (.var (.i .i64) 640000108808003), (.var (.i .i64) 640000108808004), (.var .x 640000108808005), (.var .x 6), (.var .x 640000108808006), (.app (.i .i64) 0 0 [(.var .x 640000108808006)]), (.lit (.i .i64) 0)])),
  (640000102408576, (.app (.i .i64) 100000016 0 [(.var .x 640000108808000), (.var (.i .i64) 640000108808001), (.var (.i .i64) 640000108808002), (.var (.i .i64) 640000108808003), (.var (.i .i64) 640000108808004), (.var .x 640000108808005)]))]
def q_L2_0 : E := (.or (.cmp .neq (.var (.i .i64) 640000108808007) (.lit (.i .i64) 0)) (.cmp .neq (.var (.i .i64) 640000102408576) (.lit (.i .i64) 0)))
def q_L2_1 : E := (.and (.not (.cmp .gtr (.var (.i .i64) 640000096007494) (.lit (.i .i64) 1))) (.cmp .eql (.var (.i .i64) 640000102408000) (.lit (.i .i64) 0)))
def q_L2_2 : E := (.and (.cmp .lss (.var (.i .i64) 7) (.lit (.i .i64) 140000)) (.or (.and (.not (.cmp .gtr (.var (.i .i64) 640000096007494) (.lit (.i .i64) 1))) (.and (.not (.cmp .eql (.var (.i .i64) 640000102408000) (.lit (.i .i64) 0))) (.not q_L2_0))) q_L2_1))
def q_L2_3 : E := (.ite q_L2_1 (.var .x 640000096007488) (.var .x 640000108808000))
def q_L2_4 : E := (.ite q_L2_1 (.var (.i .i64) 640000096007489) (.var (.i .i64) 640000108808001))
def q_L2_5 : E := (.ite q_L2_1 (.var (.i .i64) 640000096007490) (.var (.i .i64) 640000108808002))
def q_L2_6 : E := (.ite q_L2_1 (.var (.i .i64) 640000096007491) (.var (.i .i64) 640000108808003))
def q_L2_7 : E := (.ite q_L2_1 (.var (.i .i64) 640000096007492) (.var (.i .i64) 640000108808004))
def q_L2_8 : E := (.ite q_L2_1 (.var .x 640000096007493) (.var .x 640000108808005))
def q_L2_9 : E := (.ite q_L2_1 (.var .x 6) (.var .x 640059539208512))
def ob_L2 : E := (.and (.and (.or (.not (.cmp .lss (.var (.i .i64) 7) (.lit (.i .i64) 140000))) (.and (.and (.app .b 100000015 1000000 [(.var .x 0), (.var (.i .i64) 1), (.var (.i .i64) 2), (.var (.i .i64) 3), (.var (.i .i64) 4), (.var .x 5)]) (dE defs_L2 0 7)) (.or (.cmp .gtr (.var (.i .i64) 640000096007494) (.lit (.i .i64) 1)) (.and (.and (.app .b 100000016 1000000 [(.var .x 640000096007488), (.var (.i .i64) 640000096007489), (.var (.i .i64) 640000096007490), (.var (.i .i64) 640000096007491), (.var (.i .i64) 640000096007492), (.var .x 640000096007493)]) (dE defs_L2 7 1)) (.or (.cmp .eql (.var (.i .i64) 640000102408000) (.lit (.i .i64) 0)) (.and (.and (.app .b 100000017 1000000 [(.var .x 640000096007488), (.var (.i .i64) 640000096007489), (.var (.i .i64) 640000096007490), (.var (.i .i64) 640000096007491), (.var (.i .i64) 640000096007492), (.var .x 640000096007493), (.lit (.i .i64) 6)]) (dE defs_L2 8 8)) (.and (.and (.app .b 100009303 1000000 [(.var .x 640000108808000), (.var (.i .i64) 640000108808001), (.var (.i .i64) 640000108808002), (.var (.i .i64) 640000108808003), (.var (.i .i64) 640000108808004), (.var .x 640000108808005), (.var .x 6), (.var .x 640000108808006), (.app (.i .i64) 0 0 [(.var .x 640000108808006)]), (.lit (.i .i64) 0)]) (dE defs_L2 16 1)) (.or (.cmp .neq (.var (.i .i64) 640000108808007) (.lit (.i .i64) 0)) (.and (.app .b 100000016 1000000 [(.var .x 640000108808000), (.var (.i .i64) 640000108808001), (.var (.i .i64) 640000108808002), (.var (.i .i64) 640000108808003), (.var (.i .i64) 640000108808004), (.var .x 640000108808005)]) (dE defs_L2 17 1)))))))))) (.or (.not q_L2_2) (.and (.ite q_L2_1 q_L2_1 (.not q_L2_1)) (.app .b 9203 1000000 [q_L2_3, q_L2_4, q_L2_5, q_L2_6, q_L2_7, q_L2_8, q_L2_9, (.bin .add .i64 (.var (.i .i64) 7) (.lit (.i .i64) 1))])))) (.and (.or (.not (.or (.not (.cmp .lss (.var (.i .i64) 7) (.lit (.i .i64) 140000))) q_L2_2)) (.ite (.not (.cmp .lss (.var (.i .i64) 7) (.lit (.i .i64) 140000))) (.not (.cmp .lss (.var (.i .i64) 7) (.lit (.i .i64) 140000))) (.cmp .lss (.var (.i .i64) 7) (.lit (.i .i64) 140000)))) (.not (.and (.cmp .lss (.var (.i .i64) 7) (.lit (.i .i64) 140000)) (.or (.cmp .gtr (.var (.i .i64) 640000096007494) (.lit (.i .i64) 1)) (.and (.not (.cmp .gtr (.var (.i .i64) 640000096007494) (.lit (.i .i64) 1))) (.and (.not (.cmp .eql (.var (.i .i64) 640000102408000) (.lit (.i .i64) 0))) q_L2_0)))))))
def es_L2 : List E := [(.ite (.not (.cmp .lss (.var (.i .i64) 7) (.lit (.i .i64) 140000))) (.var .x 0) (.app .x 9203 0 [q_L2_3, q_L2_4, q_L2_5, q_L2_6, q_L2_7, q_L2_8, q_L2_9, (.bin .add .i64 (.var (.i .i64) 7) (.lit (.i .i64) 1))])), (.ite (.not (.cmp .lss (.var (.i .i64) 7) (.lit (.i .i64) 140000))) (.var (.i .i64) 1) (.app (.i .i64) 9203 1 [q_L2_3, q_L2_4, q_L2_5, q_L2_6, q_L2_7, q_L2_8, q_L2_9, (.bin .add .i64 (.var (.i .i64) 7) (.lit (.i .i64) 1))])), (.ite (.not (.cmp .lss (.var (.i .i64) 7) (.lit (.i .i64) 140000))) (.var (.i .i64) 2) (.app (.i .i64) 9203 2 [q_L2_3, q_L2_4, q_L2_5, q_L2_6, q_L2_7, q_L2_8, q_L2_9, (.bin .add .i64 (.var (.i .i64) 7) (.lit (.i .i64) 1))])), (.ite (.not (.cmp .lss (.var (.i .i64) 7) (.lit (.i .i64) 140000))) (.var (.i .i64) 3) (.app (.i .i64) 9203 3 [q_L2_3, q_L2_4, q_L2_5, q_L2_6, q_L2_7, q_L2_8, q_L2_9, (.bin .add .i64 (.var (.i .i64) 7) (.lit (.i .i64) 1))])), (.ite (.not (.cmp .lss (.var (.i .i64) 7) (.lit (.i .i64) 140000))) (.var (.i .i64) 4) (.app (.i .i64) 9203 4 [q_L2_3, q_L2_4, q_L2_5, q_L2_6, q_L2_7, q_L2_8, q_L2_9, (.bin .add .i64 (.var (.i .i64) 7) (.lit (.i .i64) 1))])), (.ite (.not (.cmp .lss (.var (.i .i64) 7) (.lit (.i .i64) 140000))) (.var .x 5) (.app .x 9203 5 [q_L2_3, q_L2_4, q_L2_5, q_L2_6, q_L2_7, q_L2_8, q_L2_9, (.bin .add .i64 (.var (.i .i64) 7) (.lit (.i .i64) 1))])), (.ite (.not (.cmp .lss (.var (.i .i64) 7) (.lit (.i .i64) 140000))) (.var .x 6) (.app .x 9203 6 [q_L2_3, q_L2_4, q_L2_5, q_L2_6, q_L2_7, q_L2_8, q_L2_9, (.bin .add .i64 (.var (.i .i64) 7) (.lit (.i .i64) 1))]))]
def leL2 : LEnt := lbL2.fw (fnL lbL2 cL2n.l ob_L2 es_L2 postL2 muL2)
theorem ev_L2 : evL Try.prog G0 (tabOf cL2n.fs) (evFn Try.prog G0 (tabOf cL2n.fs) (ltOf cL2n.ls) 40 10) 40 (subL cL2n.ls 3 pL2) leL2 (bodyAt Try.prog 3 pL2) = some (ob_L2, es_L2) := by kernel_rfl

def b3 : Ent := ⟨3, 3, [], [], [], .lt .b 1, z0, T0⟩
def cX3 : Ctx := ⟨[e22, e13, e19, e20, e21], [(3, pL1, leL1), (3, pL2, leL2)]⟩
def cX3n : Ctx := cX3.nm

def defs_3 : List (Nat × E) := [(640000083200000, (.app .x 100000013 0 [(.lit (.i .i64) 196606), (.lit (.i .i64) 6), (.lit (.i .i64) 1)])),
  (640000083200001, (.app (.i .i64) 100000013 1 [(.lit (.i .i64) 196606), (.lit (.i .i64) 6), (.lit (.i .i64) 1)])),
  (640000083200002, (.app (.i .i64) 100000013 2 [(.lit (.i .i64) 196606), (.lit (.i .i64) 6), (.lit (.i .i64) 1)])),
  (640000083200003, (.app (.i .i64) 100000013 3 [(.lit (.i .i64) 196606), (.lit (.i .i64) 6), (.lit (.i .i64) 1)])),
  (640000083200004, (.app (.i .i64) 100000013 4 [(.lit (.i .i64) 196606), (.lit (.i .i64) 6), (.lit (.i .i64) 1)])),
  (640000083200005, (.app .x 100000013 5 [(.lit (.i .i64) 196606), (.lit (.i .i64) 6), (.lit (.i .i64) 1)])),
  (640057619201024, (.app .x 100009003 0 [(.var .x 640000083200000), (.var (.i .i64) 640000083200001), (.var (.i .i64) 640000083200002), (.var (.i .i64) 640000083200003), (.var (.i .i64) 640000083200004), (.var .x 640000083200005), (.app .x 0 3 [(.app .x 0 3 [(.app .x 0 3 [(.app .x 0 3 [(.app .x 0 3 [(.app .x 0 3 [(.app .x 0 2 []), (.lit (.i .i64) 196616)]), (.lit (.i .i64) 266606)]), (.lit (.i .i64) 327680)]), (.lit (.i .i64) 327681)]), (.lit (.i .i64) 327980)]), (.lit (.i .i64) 336605)]), (.lit (.i .i64) 6), (.lit (.i .i64) 0)])),
  (640057619201025, (.app (.i .i64) 100009003 1 [(.var .x 640000083200000), (.var (.i .i64) 640000083200001), (.var (.i .i64) 640000083200002), (.var (.i .i64) 640000083200003), (.var (.i .i64) 640000083200004), (.var .x 640000083200005), (.app .x 0 3 [(.app .x 0 3 [(.app .x 0 3 [(.app .x 0 3 [(.app .x 0 3 [(.app .x 0 3 [(.app .x 0 2 []), (.lit (.i .i64) 196616)]), (.lit (.i .i64) 266606)]), (.lit (.i .i64) 327680)]), (.lit (.i .i64) 327681)]), (.lit (.i .i64) 327980)]), (.lit (.i .i64) 336605)]), (.lit (.i .i64) 6), (.lit (.i .i64) 0)])),
  (640057619201026, (.app (.i .i64) 100009003 2 [(.var .x 640000083200000), (.var (.i .i64) 640000083200001), (.var (.i .i64) 640000083200002), (.var (.i .i64) 640000083200003), (.var (.i .i64) 640000083200004), (.var .x 640000083200005), (.app .x 0 3 [(.app .x 0 3 [(.app .x 0 3 [(.app .x 0 3 [(.app .x 0 3 [(.app .x 0 3 [(.app .x 0 2 []), (.lit (.i .i64) 196616)]), (.lit (.i .i64) 266606)]), (.lit (.i .i64) 327680)]), (.lit (.i .i64) 327681)]), (.lit (.i .i64) 327980)]), (.lit (.i .i64) 336605)]), (.lit (.i .i64) 6), (.lit (.i .i64) 0)])),
  (640057619201027, (.app (.i .i64) 100009003 3 [(.var .x 640000083200000), (.var (.i .i64) 640000083200001), (.var (.i .i64) 640000083200002), (.var (.i .i64) 640000083200003), (.var (.i .i64) 640000083200004), (.var .x 640000083200005), (.app .x 0 3 [(.app .x 0 3 [(.app .x 0 3 [(.app .x 0 3 [(.app .x 0 3 [(.app .x 0 3 [(.app .x 0 2 []), (.lit (.i .i64) 196616)]), (.lit (.i .i64) 266606)]), (.lit (.i .i64) 327680)]), (.lit (.i .i64) 327681)]), (.lit (.i .i64) 327980)]), (.lit (.i .i64) 336605)]), (.lit (.i .i64) 6), (.lit (.i .i64) 0)])),
  (640057619201028, (.app (.i .i64) 100009003 4 [(.var .x 640000083200000), (.var (.i .i64) 640000083200001), (.var (.i .i64) 640000083200002), (.var (.i .i64) 640000083200003), (.var (.i .i64) 640000083200004), (.var .x 640000083200005), (.app .x 0 3 [(.app .x 0 3 [(.app .x 0 3 [(.app .x 0 3 [(.app .x 0 3 [(.app .x 0 3 [(.app .x 0 2 []), (.lit (.i .i64) 196616)]), (.lit (.i .i64) 266606)]), (.lit (.i .i64) 327680)]), (.lit (.i .i64) 327681)]), (.lit (.i .i64) 327980)]), (.lit (.i .i64) 336605)]), (.lit (.i .i64) 6), (.lit (.i .i64) 0)])),
  (640057619201029, (.app .x 100009003 5 [(.var .x 640000083200000), (.var (.i .i64) 640000083200001), (.var (.i .i64) 640000083200002), (.var (.i .i64) 640000083200003), (.var (.i .i64) 640000083200004), (.var .x 640000083200005), (.app .x 0 3 [(.app .x 0 3 [(.app .x 0 3 [(.app .x 0 3 [(.app .x 0 3 [(.app .x 0 3 [(.app .x 0 2 []), (.lit (.i .i64) 196616)]), (.lit (.i .i64) 266606)]), (.lit (.i .i64) 327680)]), (.lit (.i .i64) 327681)]), (.lit (.i .i64) 327980)]), (.lit (.i .i64) 336605)]), (.lit (.i .i64) 6), (.lit (.i .i64) 0)])),
  (640058899201088, (.app .x 100009203 0 [(.var .x 640057619201024), (.var (.i .i64) 640057619201025), (.var (.i .i64) 640057619201026), (.var (.i .i64) 640057619201027), (.var (.i .i64) 640057619201028), (.var .x 640057619201029), (.app .x 0 3 [(.app .x 0 3 [(.app .x 0 3 [(.app .x 0 3 [(.app .x 0 3 [(.app .x 0 3 [(.app .x 0 2 []), (.lit (.i .i64) 196616)]), (.lit (.i .i64) 266606)]), (.lit (.i .i64) 327680)]), (.lit (.i .i64) 327681)]), (.lit (.i .i64) 327980)]), (.lit (.i .i64) 336605)]), (.lit (.i .i64) 0)])),
  (640058899201089, (.app (.i .i64) 100009203 1 [(.var .x 640057619201024), (.var (.i .i64) 640057619201025), (.var (.i .i64) 640057619201026), (.var (.i .i64) 640057619201027), (.var (.i .i64) 640057619201028), (.var .x 640057619201029), (.app .x 0 3 [(.app .x 0 3 [(.app .x 0 3 [(.app .x 0 3 [(.app .x 0 3 [(.app .x 0 3 [(.app .x 0 2 []), (.lit (.i .i64) 196616)]), (.lit (.i .i64) 266606)]), (.lit (.i .i64) 327680)]), (.lit (.i .i64) 327681)]), (.lit (.i .i64) 327980)]), (.lit (.i .i64) 336605)]), (.lit (.i .i64) 0)])),
  (640058899201090, (.app (.i .i64) 100009203 2 [(.var .x 640057619201024), (.var (.i .i64) 640057619201025), (.var (.i .i64) 640057619201026), (.var (.i .i64) 640057619201027), (.var (.i .i64) 640057619201028), (.var .x 640057619201029), (.app .x 0 3 [(.app .x 0 3 [(.app .x 0 3 [(.app .x 0 3 [(.app .x 0 3 [(.app .x 0 3 [(.app .x 0 2 []), (.lit (.i .i64) 196616)]), (.lit (.i .i64) 266606)]), (.lit (.i .i64) 327680)]), (.lit (.i .i64) 327681)]), (.lit (.i .i64) 327980)]), (.lit (.i .i64) 336605)]), (.lit (.i .i64) 0)])),
  (640058899201091, (.app (.i .i64) 100009203 3 [(.var .x 640057619201024), (.var (.i .i64) 640057619201025), (.var (.i .i64) 640057619201026), (.var (.i .i64) 640057619201027), (.var (.i .i64) 640057619201028), (.var .x 640057619201029), (.app .x 0 3 [(.app .x 0 3 [(.app .x 0 3 [(.app .x 0 3 [(.app .x 0 3 [(.app .x 0 3 [(.app .x 0 2 []), (.lit (.i .i64) 196616)]), (.lit (.i .i64) 266606)]), (.lit (.i .i64) 327680)]), (.lit (.i .i64) 327681)]), (.lit (.i .i64) 327980)]), (.lit (.i .i64) 336605)]), (.lit (.i .i64) 0)])),
  (640058899201092, (.app (.i .i64) 100009203 4 [(.var .x 640057619201024), (.var (.i .i64) 640057619201025), (.var (.i .i64) 640057619201026), (.var (.i .i64) 640057619201027), (.var (.i .i64) 640057619201028), (.var .x 640057619201029), (.app .x 0 3 [(.app .x 0 3 [(.app .x 0 3 [(.app .x 0 3 [(.app .x 0 3 [(.app .x 0 3 [(.app .x 0 2 []), (.lit (.i .i64) 196616)]), (.lit (.i .i64) 266606)]), (.lit (.i .i64) 327680)]), (.lit (.i .i64) 327681)]), (.lit (.i .i64) 327980)]), (.lit (.i .i64) 336605)]), (.lit (.i .i64) 0)])),
  (640058899201093, (.app .x 100009203 5 [(.var .x 640057619201024), (.var (.i .i64) 640057619201025), (.var (.i .i64) 640057619201026), (.var (.i .i64) 640057619201027), (.var (.i .i64) 640057619201028), (.var .x 640057619201029), (.app .x 0 3 [(.app .x 0 3 [(.app .x 0 3 [(.app .x 0 3 [(.app .x 0 3 [(.app .x 0 3 [(.app .x 0 2 []), (.lit (.i .i64) 196616)]), (.lit (.i .i64) 266606)]), (.lit (.i .i64) 327680)]), (.lit (.i .i64) 327681)]), (.lit (.i .i64) 327980)]), (.lit (.i .i64) 336605)]), (.lit (.i .i64) 0)])),
  (640058899201094, (.app .x 100009203 6 [(.var .x 640057619201024), (.var (.i .i64) 640057619201025), (.var (.i .i64) 640057619201026), (.var (.i .i64) 640057619201027), (.var (.i .i64) 640057619201028), (.var .x 640057619201029), (.app .x 0 3 [(.app .x 0 3 [(.app .x 0 3 [(.app .x 0 3 [(.app .x 0 3 [(.app .x 0 3 [(.app .x 0 2 []), (.lit (.i .i64) 196616)]), (.lit (.i .i64) 266606)]), (.lit (.i .i64) 327680)]), (.lit (.i .i64) 327681)]), (.lit (.i .i64) 327980)]), (.lit (.i .i64) 336605)]), (.lit (.i .i64) 0)])),
  (640000121601728, (.app .b 100000019 0 [(.var .x 640058899201094), (.app .x 0 7 [(.lit (.i .i64) 6), (.lit (.i .i64) 0)])])),
  (640000128001728, (.app (.i .i64) 100000020 0 [(.var .x 640058899201088), (.var (.i .i64) 640058899201089), (.var (.i .i64) 640058899201090), (.var (.i .i64) 640058899201091), (.var (.i .i64) 640058899201092), (.var .x 640058899201093)])),
  (640000134401728, (.app (.i .i64) 100000021 0 [(.var .x 640058899201088), (.var (.i .i64) 640058899201089), (.var (.i .i64) 640058899201090), (.var (.i .i64) 640058899201091), (.var (.i .i64) 640058899201092), (.var .x 640058899201093)]))]
def q_3_0 : E := (.app .x 0 3 [(.app .x 0 3 [(.app .x 0 3 [(.app .x 0 3 [(.app .x 0 3 [(.app .x 0 3 [(.app .x 0 2 []), (.lit (.i .i64) 196616)]), (.lit (.i .i64) 266606)]), (.lit (.i .i64) 327680)]), (.lit (.i .i64) 327681)]), (.lit (.i .i64) 327980)]), (.lit (.i .i64) 336605)])
def q_3_1 : E := (.and (.var .b 640000121601728) (.cmp .eql (.var (.i .i64) 640000128001728) (.lit (.i .i64) 0)))
def q_3_2 : E := (.and q_3_1 (.cmp .leq (.var (.i .i64) 640000134401728) (.lit (.i .i64) 12)))
def ob_3 : E := (.and (.and (.and (.app .b 100000013 1000000 [(.lit (.i .i64) 196606), (.lit (.i .i64) 6), (.lit (.i .i64) 1)]) (dE defs_3 0 6)) (.and (.and (.app .b 100009003 1000000 [(.var .x 640000083200000), (.var (.i .i64) 640000083200001), (.var (.i .i64) 640000083200002), (.var (.i .i64) 640000083200003), (.var (.i .i64) 640000083200004), (.var .x 640000083200005), q_3_0, (.lit (.i .i64) 6), (.lit (.i .i64) 0)]) (dE defs_3 6 6)) (.and (.and (.app .b 100009203 1000000 [(.var .x 640057619201024), (.var (.i .i64) 640057619201025), (.var (.i .i64) 640057619201026), (.var (.i .i64) 640057619201027), (.var (.i .i64) 640057619201028), (.var .x 640057619201029), q_3_0, (.lit (.i .i64) 0)]) (dE defs_3 12 7)) (.and (.and (.app .b 100000019 1000000 [(.var .x 640058899201094), (.app .x 0 7 [(.lit (.i .i64) 6), (.lit (.i .i64) 0)])]) (dE defs_3 19 1)) (.and (.or (.not (.var .b 640000121601728)) (.and (.app .b 100000020 1000000 [(.var .x 640058899201088), (.var (.i .i64) 640058899201089), (.var (.i .i64) 640058899201090), (.var (.i .i64) 640058899201091), (.var (.i .i64) 640058899201092), (.var .x 640058899201093)]) (dE defs_3 20 1))) (.and (.or (.not q_3_1) (.and (.app .b 100000021 1000000 [(.var .x 640058899201088), (.var (.i .i64) 640058899201089), (.var (.i .i64) 640058899201090), (.var (.i .i64) 640058899201091), (.var (.i .i64) 640058899201092), (.var .x 640058899201093)]) (dE defs_3 21 1))) (.or (.not q_3_2) (.app .b 100000022 1000000 [])))))))) q_3_2)
def es_3 : List E := []
def e3 : Ent := b3.fw (fnR cX3n.l.F b3.np ob_3 es_3 postN)
theorem ev_3 : evE Try.prog G0 (tabOf cX3n.fs) (ltOf cX3n.ls) 40 10 e3 = some (ob_3, es_3) := by kernel_rfl

theorem cL1ok : cL1.OK Try.prog G0 := Ctx.OK.nil.addF ok14 rfl
theorem cL3ok : cL3.OK Try.prog G0 := Ctx.OK.nil.addF ok18 rfl
theorem int_row {D : Int} (h : rowsOK intK (dc D)) {i : Nat} (hi : i < (dc D).length) : ∃ v, (dc D).getD i [] = [v] ∧ IntKind.i64.wrap v = v ∧ gC (dc D) i 0 = v := by
  have hr := h _ (List.getElem_mem hi)
  have e : (dc D).getD i [] = (dc D)[i] := by simp [List.getD, hi]
  obtain ⟨v, r, e1, hv, hr⟩ := fits_cons hr
  obtain rfl := fits_nil hr
  refine ⟨v, e.trans e1, hv, ?_⟩
  unfold gC
  rw [e, e1]; rfl
theorem lvF_le2 {now d : Int} (h1 : 0 ≤ now) (h2 : d < 16777216) : lvF now d ≤ 2 := by
  unfold lvF
  have : blk 3 d ≤ blk 3 now + 1 := by rw [blk3, blk3]; omega
  rw [if_pos this]
  repeat' split
  all_goals decide

set_option maxHeartbeats 1000000 in
theorem okL1 : ItemOK Try.prog G0 3 pL1 leL1 ∧ PostOK leL1.ent postL1 := by
  refine cL1ok.nm.loopH mixed rfl ⟨_, _, _, Try.func3, rfl, rfl⟩ ev_L1 (by kernel_rfl) _ rfl fun xs hf hp φ hφ => ?_
  obtain ⟨l, hl, hS, hF⟩ := self_H lbL1 φ muL1 (muL1 xs) cL1n.l (by decide)
  show ∃ ρ : Nat → Int, _ ∧ ob_L1.tt (Tabs.F (enH lbL1 φ muL1 (muL1 xs) :: cL1n.l)) ρ = true ∧ postL1 xs (es_L1.map (E.den (Tabs.F (enH lbL1 φ muL1 (muL1 xs) :: cL1n.l)) ρ))
  rw [hl]
  replace hφ : ∀ ys, fits [.x, (.i .i64), (.i .i64), (.i .i64), (.i .i64), .x, .x, (.i .i64), (.i .i64)] ys → lbL1.ent.pre ys → muL1 ys < muL1 xs → postL1 ys (outsE φ ys 0 lbL1.ent.oks) := hφ
  have F9003 := FC (k := 9003) rfl hS
  have F14 := FC (k := 100000014) rfl (hF e14.nm (by rfl) (by decide) (by decide))
  replace hf : fits [.x, (.i .i64), (.i .i64), (.i .i64), (.i .i64), .x, .x, (.i .i64), (.i .i64)] xs := hf
  obtain ⟨S, xs0, hx0, hS, hf0⟩ := fits_cons hf
  obtain ⟨now, xs1, hx1, hnow, hf1⟩ := fits_cons hf0
  obtain ⟨bu, xs2, hx2, hbu, hf2⟩ := fits_cons hf1
  obtain ⟨le, xs3, hx3, hle, hf3⟩ := fits_cons hf2
  obtain ⟨mo, xs4, hx4, hmo, hf4⟩ := fits_cons hf3
  obtain ⟨T, xs5, hx5, hT, hf5⟩ := fits_cons hf4
  obtain ⟨D, xs6, hx6, hD, hf6⟩ := fits_cons hf5
  obtain ⟨n, xs7, hx7, hn, hf7⟩ := fits_cons hf6
  obtain ⟨i, xs8, hx8, hi, hf8⟩ := fits_cons hf7
  have hxn := fits_nil hf8
  subst hxn hx8 hx7 hx6 hx5 hx4 hx3 hx2 hx1 hx0
  simp only [norm_i] at hnow hbu hle hmo hn hi
  obtain ⟨ρ, hρ, hd⟩ := solve (F := l.F) 9 defs_L1 (by kernel_rfl) [S, now, bu, le, mo, T, D, n, i]
  have hDf := dE_tt (by kernel_rfl) hd
  refine ⟨ρ, hρ, ?_⟩
  have r0 : ρ 0 = S := hρ 0 (by decide)
  have r1 : ρ 1 = now := hρ 1 (by decide)
  have r2 : ρ 2 = bu := hρ 2 (by decide)
  have r3 : ρ 3 = le := hρ 3 (by decide)
  have r4 : ρ 4 = mo := hρ 4 (by decide)
  have r5 : ρ 5 = T := hρ 5 (by decide)
  have r6 : ρ 6 = D := hρ 6 (by decide)
  have r7 : ρ 7 = n := hρ 7 (by decide)
  have r8 : ρ 8 = i := hρ 8 (by decide)
  obtain ⟨v1, hv1, hd1, hn1⟩ := nmd hd 0 rfl
  obtain ⟨v2, hv2, hd2, hn2⟩ := nmd hd 1 rfl
  obtain ⟨v3, hv3, hd3, hn3⟩ := nmd hd 2 rfl
  obtain ⟨v4, hv4, hd4, hn4⟩ := nmd hd 3 rfl
  obtain ⟨v5, hv5, hd5, hn5⟩ := nmd hd 4 rfl
  obtain ⟨v6, hv6, hd6, hn6⟩ := nmd hd 5 rfl
  obtain ⟨v7, hv7, hd7, hn7⟩ := nmd hd 6 rfl
  simp only [norm_i] at hn2 hn3 hn4 hn5 hn7
  simp (disch := omega) only [norm_i, F14, Ent.nm_fn, r0, r1, hnow, r2, hbu, r3, hle, r4, hmo, r5, r6, r7, hn, r8, hi, hv1, hv2, hn2, hv3, hn3, hv4, hn4, hv5, hn5, hv6, hv7, hn7, ewA, ewL, preC, binI, dvI, shI, cmpB, env, bi, List.headD, List.tail, List.map, Nat.reduceAdd, ewR, ewB, ewM, if_true, if_false, implies_true, forall_const, ne_eq, reduceCtorEq, Int.reduceEq, Int.reduceLT, Int.reduceLE, Int.reduceToNat, Int.reduceAdd, Int.reduceSub, Int.reduceMul, Int.reduceNeg, Int.reduceBEq, Nat.reduceLT, Nat.reduceEqDiff] at hd1 hd2 hd3 hd4 hd5 hd6 hd7
  have hSS := And.intro (And.intro (And.intro (And.intro F9003 (And.intro F14 r0)) (And.intro (And.intro r1 hnow) (And.intro r2 hbu))) (And.intro (And.intro (And.intro r3 hle) (And.intro r4 hmo)) (And.intro (And.intro r5 r6) (And.intro r7 hn)))) (And.intro (And.intro (And.intro r8 (And.intro hi hv1)) (And.intro (And.intro hv2 hn2) (And.intro hv3 hn3))) (And.intro (And.intro (And.intro hv4 hn4) (And.intro hv5 hn5)) (And.intro (And.intro hv6 hv7) (And.intro hn7 hDf))))
  obtain ⟨⟨d, hw, hn0, hs, hb1, hd⟩, ⟨p1, p2⟩, p3, p4, p5, p6, p7⟩ := hp
  replace hw : WV S now bu le mo T 6 d [] := hw
  replace hn0 : NN (dc T) := hn0
  replace hs : mo + lvSum (dc T) 6 ≤ 2 * i := hs
  replace hb1 : bu = 1 := hb1
  replace hd : ∀ j : Nat, j < i.toNat → d j = six0 D j := hd
  replace p1 : (dc D).length = 6 := p1
  replace p2 : rowsOK intK (dc D) := p2
  replace p3 : ∀ j : Nat, j < 6 → 196606 < six0 D j ∧ six0 D j ≤ 336605 := p3
  replace p4 : n = 6 := p4
  replace p5 : 0 ≤ i := p5
  replace p6 : i ≤ 6 := p6
  replace p7 : now = 196606 := p7
  subst p4 p7
  by_cases hi : i < 6
  · obtain ⟨v, er, wv, ev⟩ := int_row p2 (i := i.toNat) (by omega)
    have hv := p3 i.toNat (by omega)
    have ev' : six0 D i.toNat = v := ev
    rw [ev'] at hv
    simp (disch := omega) only [ewA, ewL, preC, binI, dvI, shI, cmpB, env, bi, List.headD, List.tail, List.map, Nat.reduceAdd, ewR, ewB, ewM, if_true, if_false, implies_true, forall_const, ne_eq, reduceCtorEq, Int.reduceEq, Int.reduceLT, Int.reduceLE, Int.reduceToNat, Int.reduceAdd, Int.reduceSub, Int.reduceMul, Int.reduceNeg, Int.reduceBEq, Nat.reduceLT, Nat.reduceEqDiff, er, wv] at hd1 hd2 hd3 hd4 hd5 hd6 hd7
    obtain ⟨q1, q2, q3, q4, q5, q6, q7, q8⟩ := hw.arm (i := i) (dd := v) ⟨p5, hi⟩ (by omega) ⟨hd1, hd2, hd3, hd4, hd5, hd6, hd7, trivial⟩
    have hl := lvF_le2 (now := 196606) (d := v) (by decide) (by omega)
    have hl0 := lvF_rng 196606 v
    have hsu := lvSum_upd (n := 6) (T := dc T) (T' := dc v6) (i := i.toNat) (by omega) q7
    have hni := hn0 i.toNat
    subst q5
    have yp : lbL1.ent.pre [v1, v2, v3, v4, v5, v6, D, 6, i + 1] := by
      refine ⟨⟨_, q1, fun y => ?_, ?_, q3.trans hb1, fun j hj => ?_⟩, ⟨p1, p2⟩, p3, rfl, by show 0 ≤ i + 1; omega, by show i + 1 ≤ 6; omega, q2⟩
      · by_cases hy : y = i.toNat
        · subst hy; show 0 ≤ gC (dc v6) i.toNat 0; omega
        · show 0 ≤ gC (dc v6) y 0
          rw [q7 y hy]; exact hn0 y
      · show v5 + lvSum (dc v6) 6 ≤ 2 * (i + 1)
        omega
      · replace hj : j < (i + 1).toNat := hj
        by_cases hy : j = i.toNat
        · subst hy; rw [upD_same]; exact ev'.symm
        · rw [upD_ne _ _ hy]; exact hd j (by omega)
    have ym : muL1 [v1, v2, v3, v4, v5, v6, D, 6, i + 1] < muL1 [S, 196606, bu, le, mo, T, D, 6, i] := by show (6 - (i + 1)).toNat < (6 - i).toNat; omega
    have ih := hφ [v1, v2, v3, v4, v5, v6, D, 6, i + 1] ⟨rfl, hn2, hn3, hn4, hn5, rfl, rfl, rfl, i64w (by omega) (by omega), trivial⟩ yp ym
    have y14 : e14.pre [S, 196606, bu, le, mo, T, i, v] := hw.wx2 _ _
    refine ⟨?_, ?_⟩
    · simp (disch := omega) only [ob_L1, q_L1_0, ewA, ewL, preC, binI, dvI, shI, cmpB, env, bi, List.headD, List.tail, List.map, Nat.reduceAdd, ewR, ewB, ewM, if_true, if_false, implies_true, forall_const, ne_eq, reduceCtorEq, Int.reduceEq, Int.reduceLT, Int.reduceLE, Int.reduceToNat, Int.reduceAdd, Int.reduceSub, Int.reduceMul, Int.reduceNeg, Int.reduceBEq, Nat.reduceLT, Nat.reduceEqDiff, hSS, hi, er, wv, y14, p1]
      repeat' (first | (with_reducible apply And.intro) | (with_reducible intro _))
      all_goals first | with_reducible assumption | trivial | omega | (split <;> omega)
    · simp (disch := omega) only [es_L1, q_L1_0, ewA, ewL, preC, binI, dvI, shI, cmpB, env, bi, List.headD, List.tail, List.map, Nat.reduceAdd, ewR, ewB, ewM, if_true, if_false, implies_true, forall_const, ne_eq, reduceCtorEq, Int.reduceEq, Int.reduceLT, Int.reduceLE, Int.reduceToNat, Int.reduceAdd, Int.reduceSub, Int.reduceMul, Int.reduceNeg, Int.reduceBEq, Nat.reduceLT, Nat.reduceEqDiff, hSS, hi]
      exact ih
  · refine ⟨?_, ?_⟩
    · simp (disch := omega) only [ob_L1, q_L1_0, ewA, ewL, preC, binI, dvI, shI, cmpB, env, bi, List.headD, List.tail, List.map, Nat.reduceAdd, ewR, ewB, ewM, if_true, if_false, implies_true, forall_const, ne_eq, reduceCtorEq, Int.reduceEq, Int.reduceLT, Int.reduceLE, Int.reduceToNat, Int.reduceAdd, Int.reduceSub, Int.reduceMul, Int.reduceNeg, Int.reduceBEq, Nat.reduceLT, Nat.reduceEqDiff, hSS, hi]
    · simp (disch := omega) only [es_L1, q_L1_0, ewA, ewL, preC, binI, dvI, shI, cmpB, env, bi, List.headD, List.tail, List.map, Nat.reduceAdd, ewR, ewB, ewM, if_true, if_false, implies_true, forall_const, ne_eq, reduceCtorEq, Int.reduceEq, Int.reduceLT, Int.reduceLE, Int.reduceToNat, Int.reduceAdd, Int.reduceSub, Int.reduceMul, Int.reduceNeg, Int.reduceBEq, Nat.reduceLT, Nat.reduceEqDiff, hSS, hi]
      refine ⟨⟨d, hw, hn0, by show mo + lvSum (dc T) 6 ≤ 12; omega, hb1, fun j hj => hd j (by omega)⟩, rfl⟩

set_option maxHeartbeats 1000000 in
theorem okL3 : ItemOK Try.prog G0 3 pL3 leL3 ∧ PostOK leL3.ent postL3 := by
  refine cL3ok.nm.loopH mixed rfl ⟨_, _, _, Try.func3, rfl, rfl⟩ ev_L3 (by kernel_rfl) _ rfl fun xs hf hp φ hφ => ?_
  obtain ⟨l, hl, hS, hF⟩ := self_H lbL3 φ muL3 (muL3 xs) cL3n.l (by decide)
  show ∃ ρ : Nat → Int, _ ∧ ob_L3.tt (Tabs.F (enH lbL3 φ muL3 (muL3 xs) :: cL3n.l)) ρ = true ∧ postL3 xs (es_L3.map (E.den (Tabs.F (enH lbL3 φ muL3 (muL3 xs) :: cL3n.l)) ρ))
  rw [hl]
  replace hφ : ∀ ys, fits [.x, (.i .i64), (.i .i64), (.i .i64), (.i .i64), .x, .x, .x, (.i .i64), (.i .i64)] ys → lbL3.ent.pre ys → muL3 ys < muL3 xs → postL3 ys (outsE φ ys 0 lbL3.ent.oks) := hφ
  have F9303 := FC (k := 9303) rfl hS
  have F18 := FC (k := 100000018) rfl (hF e18.nm (by rfl) (by decide) (by decide))
  replace hf : fits [.x, (.i .i64), (.i .i64), (.i .i64), (.i .i64), .x, .x, .x, (.i .i64), (.i .i64)] xs := hf
  obtain ⟨S, xs0, hx0, hS, hf0⟩ := fits_cons hf
  obtain ⟨now, xs1, hx1, hnow, hf1⟩ := fits_cons hf0
  obtain ⟨bu, xs2, hx2, hbu, hf2⟩ := fits_cons hf1
  obtain ⟨le, xs3, hx3, hle, hf3⟩ := fits_cons hf2
  obtain ⟨mo, xs4, hx4, hmo, hf4⟩ := fits_cons hf3
  obtain ⟨T, xs5, hx5, hT, hf5⟩ := fits_cons hf4
  obtain ⟨D, xs6, hx6, hD, hf6⟩ := fits_cons hf5
  obtain ⟨L, xs7, hx7, hL, hf7⟩ := fits_cons hf6
  obtain ⟨n, xs8, hx8, hn, hf8⟩ := fits_cons hf7
  obtain ⟨i, xs9, hx9, hi, hf9⟩ := fits_cons hf8
  have hxn := fits_nil hf9
  subst hxn hx9 hx8 hx7 hx6 hx5 hx4 hx3 hx2 hx1 hx0
  simp only [norm_i] at hnow hbu hle hmo hn hi
  obtain ⟨ρ, hρ, hd⟩ := solve (F := l.F) 10 defs_L3 (by kernel_rfl) [S, now, bu, le, mo, T, D, L, n, i]
  have hDf := dE_tt (by kernel_rfl) hd
  refine ⟨ρ, hρ, ?_⟩
  have r0 : ρ 0 = S := hρ 0 (by decide)
  have r1 : ρ 1 = now := hρ 1 (by decide)
  have r2 : ρ 2 = bu := hρ 2 (by decide)
  have r3 : ρ 3 = le := hρ 3 (by decide)
  have r4 : ρ 4 = mo := hρ 4 (by decide)
  have r5 : ρ 5 = T := hρ 5 (by decide)
  have r6 : ρ 6 = D := hρ 6 (by decide)
  have r7 : ρ 7 = L := hρ 7 (by decide)
  have r8 : ρ 8 = n := hρ 8 (by decide)
  have r9 : ρ 9 = i := hρ 9 (by decide)
  obtain ⟨v1, hv1, hd1, hn1⟩ := nmd hd 0 rfl
  simp only [norm_i] at hn1
  simp (disch := omega) only [norm_i, F18, Ent.nm_fn, r0, r1, hnow, r2, hbu, r3, hle, r4, hmo, r5, r6, r7, r8, hn, r9, hi, hv1, hn1, ewA, ewL, preC, binI, dvI, shI, cmpB, env, bi, List.headD, List.tail, List.map, Nat.reduceAdd, ewR, ewB, ewM, if_true, if_false, implies_true, forall_const, ne_eq, reduceCtorEq, Int.reduceEq, Int.reduceLT, Int.reduceLE, Int.reduceToNat, Int.reduceAdd, Int.reduceSub, Int.reduceMul, Int.reduceNeg, Int.reduceBEq, Nat.reduceLT, Nat.reduceEqDiff] at hd1
  have hSS := And.intro (And.intro (And.intro (And.intro F9303 F18) (And.intro r0 (And.intro r1 hnow))) (And.intro (And.intro r2 hbu) (And.intro r3 (And.intro hle r4)))) (And.intro (And.intro (And.intro hmo r5) (And.intro r6 (And.intro r7 r8))) (And.intro (And.intro hn (And.intro r9 hi)) (And.intro hv1 (And.intro hn1 hDf))))
  obtain ⟨⟨c, d, B, hw⟩, ⟨p1, p2⟩, ⟨l0, p3, p4, p5, p6, p7⟩, p8, p9⟩ := hp
  replace hw : WV S now bu le mo T c d B := hw
  replace p1 : (dc D).length = 6 := p1
  replace p2 : rowsOK intK (dc D) := p2
  replace p3 : dc L = l0.map (fun i : Nat => [(i : Int)]) := p3
  replace p5 : (l0.length : Int) = n := p5
  replace p7 : ∀ j ∈ l0.drop i.toNat, j < 6 ∧ six0 D j = now := p7
  replace p8 : 0 ≤ i := p8
  replace p9 : i ≤ n := p9
  have htm := hw.tm
  have y18 : e18.pre [S, now, bu, le, mo, T] := hw.lenOK []
  have hL : (dc L).length = l0.length := by rw [p3, List.length_map]
  by_cases hi : i < n
  · have hil : i.toNat < l0.length := by omega
    obtain ⟨k, hk⟩ : ∃ k, l0[i.toNat] = k := ⟨_, rfl⟩
    have hdr : l0.drop i.toNat = k :: l0.drop (i + 1).toNat := by
      rw [List.drop_eq_getElem_cons hil, hk, show (i + 1).toNat = i.toNat + 1 by omega]
    have er : (dc L).getD i.toNat [] = [(k : Int)] := by
      rw [p3]; simp [List.getD, hil, hk]
    obtain ⟨hk6, hkn⟩ := p7 k (by rw [hdr]; simp)
    obtain ⟨v, ek, wv, ev⟩ := int_row p2 (i := k) (by omega)
    have ev' : six0 D k = v := ev
    rw [ev'] at hkn
    subst hkn
    obtain rfl : v = v1 := (hd1.trans (i64w (by show _ ≤ v; omega) (by show v ≤ _; omega))).symm
    have wk : IntKind.i64.wrap (k : Int) = (k : Int) := i64w (by omega) (by omega)
    have hnk : k ∉ l0.drop (i + 1).toNat := by
      have := p4.sublist (List.drop_sublist i.toNat l0)
      rw [hdr] at this
      exact (List.nodup_cons.1 this).1
    obtain ⟨D', hD'⟩ : ∃ D', D' = cd ((dc D).set k (splR [v] 0 [0])) := ⟨_, rfl⟩
    have dD : dc D' = setC (dc D) k 0 [0] := by
      rw [hD', dc_cd]
      show _ = (dc D).set k (splR ((dc D).getD k []) 0 [0])
      rw [ek]
    have hs : ∀ j, six0 D' j = if j = k then 0 else six0 D j := fun j => by
      show gC (dc D') j 0 = _
      rw [dD, gC_set1 (by omega) (by rw [ek]; exact Nat.succ_pos _)]
      by_cases hj : j = k
      · rw [if_pos ⟨hj, rfl⟩, if_pos hj]
      · rw [if_neg (fun h => hj h.1), if_neg hj]; rfl
    have h6 : six D' := by
      refine ⟨by rw [dD, setC_len]; exact p1, ?_⟩
      rw [dD]
      exact rows_setC p2 (by omega) ⟨rfl, trivial⟩ (by decide)
    have yp : lbL3.ent.pre [S, v, bu, le, mo, T, D', L, n, i + 1] := by
      refine ⟨⟨c, d, B, hw⟩, h6, ⟨l0, p3, p4, p5, p6, fun j hj => ?_⟩, by show 0 ≤ i + 1; omega, by show i + 1 ≤ n; omega⟩
      replace hj : j ∈ l0.drop (i + 1).toNat := hj
      obtain ⟨a1, a2⟩ := p7 j (by rw [hdr]; exact List.mem_cons_of_mem _ hj)
      refine ⟨a1, ?_⟩
      show six0 D' j = v
      rw [hs j, if_neg (fun e => hnk (by rw [← e]; exact hj))]; exact a2
    have ym : muL3 [S, v, bu, le, mo, T, D', L, n, i + 1] < muL3 [S, v, bu, le, mo, T, D, L, n, i] := by show (n - (i + 1)).toNat < (n - i).toNat; omega
    have ih := hφ [S, v, bu, le, mo, T, D', L, n, i + 1] ⟨rfl, hnow, hbu, hle, hmo, rfl, rfl, rfl, hn, i64w (by omega) (by omega), trivial⟩ yp ym
    have kt : ((k : Int)).toNat = k := by omega
    refine ⟨?_, ?_⟩
    · simp (disch := omega) only [ob_L3, q_L3_0, q_L3_1, q_L3_2, q_L3_3, q_L3_4, q_L3_5, ewA, ewL, preC, binI, dvI, shI, cmpB, env, bi, List.headD, List.tail, List.map, Nat.reduceAdd, ewR, ewB, ewM, if_true, if_false, implies_true, forall_const, ne_eq, reduceCtorEq, Int.reduceEq, Int.reduceLT, Int.reduceLE, Int.reduceToNat, Int.reduceAdd, Int.reduceSub, Int.reduceMul, Int.reduceNeg, Int.reduceBEq, Nat.reduceLT, Nat.reduceEqDiff, hSS, hi, er, ek, wk, kt, wv, y18, p1, hL, ← hD']
      repeat' (first | (with_reducible apply And.intro) | (with_reducible intro _))
      all_goals first | with_reducible assumption | trivial | omega | (split <;> omega)
    · simp (disch := omega) only [es_L3, q_L3_0, q_L3_1, q_L3_2, q_L3_3, q_L3_4, q_L3_5, ewA, ewL, preC, binI, dvI, shI, cmpB, env, bi, List.headD, List.tail, List.map, Nat.reduceAdd, ewR, ewB, ewM, if_true, if_false, implies_true, forall_const, ne_eq, reduceCtorEq, Int.reduceEq, Int.reduceLT, Int.reduceLE, Int.reduceToNat, Int.reduceAdd, Int.reduceSub, Int.reduceMul, Int.reduceNeg, Int.reduceBEq, Nat.reduceLT, Nat.reduceEqDiff, hSS, hi, er, ek, wk, kt, ← hD']
      obtain ⟨j1, j2⟩ := ih
      refine ⟨j1, fun l' hl' j => ?_⟩
      have e := j2 l' hl' j
      refine e.trans ?_
      have hll : l' = l0 := by
        have h1 : (l'.map (fun i : Nat => [(i : Int)])) = l0.map (fun i : Nat => [(i : Int)]) := hl'.symm.trans p3
        refine (List.map_inj_right (fun a b h => ?_)).1 h1
        injection h with h; omega
      subst hll
      show (if j ∈ l'.drop (i + 1).toNat then 0 else six0 D' j) = if j ∈ l'.drop i.toNat then 0 else six0 D j
      rw [hdr, hs j]
      by_cases hj : j = k
      · subst hj; simp
      · simp [hj]
  · refine ⟨?_, ?_⟩
    · simp (disch := omega) only [ob_L3, q_L3_0, q_L3_1, q_L3_2, q_L3_3, q_L3_4, q_L3_5, ewA, ewL, preC, binI, dvI, shI, cmpB, env, bi, List.headD, List.tail, List.map, Nat.reduceAdd, ewR, ewB, ewM, if_true, if_false, implies_true, forall_const, ne_eq, reduceCtorEq, Int.reduceEq, Int.reduceLT, Int.reduceLE, Int.reduceToNat, Int.reduceAdd, Int.reduceSub, Int.reduceMul, Int.reduceNeg, Int.reduceBEq, Nat.reduceLT, Nat.reduceEqDiff, hSS, hi]
    · simp (disch := omega) only [es_L3, q_L3_0, q_L3_1, q_L3_2, q_L3_3, q_L3_4, q_L3_5, ewA, ewL, preC, binI, dvI, shI, cmpB, env, bi, List.headD, List.tail, List.map, Nat.reduceAdd, ewR, ewB, ewM, if_true, if_false, implies_true, forall_const, ne_eq, reduceCtorEq, Int.reduceEq, Int.reduceLT, Int.reduceLE, Int.reduceToNat, Int.reduceAdd, Int.reduceSub, Int.reduceMul, Int.reduceNeg, Int.reduceBEq, Nat.reduceLT, Nat.reduceEqDiff, hSS, hi]
      refine ⟨⟨p1, p2⟩, fun l' hl' j => ?_⟩
      replace hl' : dc L = l'.map (fun i : Nat => [(i : Int)]) := hl'
      have : l'.length = l0.length := by
        have := congrArg List.length (hl'.symm.trans p3)
        simpa using this
      show six0 D j = if j ∈ l'.drop i.toNat then 0 else six0 D j
      rw [List.drop_eq_nil_of_le (by omega)]; simp

theorem cL2ok : cL2.OK Try.prog G0 := Ctx.OK.addL (c := ⟨[e15, e16, e17], []⟩) (((Ctx.OK.nil.addF ok17 rfl).addF ok16 rfl).addF ok15 rfl) okL3.1 rfl

set_option maxHeartbeats 2000000 in
theorem okL2 : ItemOK Try.prog G0 3 pL2 leL2 ∧ PostOK leL2.ent postL2 := by
  refine cL2ok.nm.loopH mixed rfl ⟨_, _, _, Try.func3, rfl, rfl⟩ ev_L2 (by kernel_rfl) _ rfl fun xs hf hp φ hφ => ?_
  obtain ⟨l, hl, hS, hF⟩ := self_H lbL2 φ muL2 (muL2 xs) cL2n.l (by decide)
  show ∃ ρ : Nat → Int, _ ∧ ob_L2.tt (Tabs.F (enH lbL2 φ muL2 (muL2 xs) :: cL2n.l)) ρ = true ∧ postL2 xs (es_L2.map (E.den (Tabs.F (enH lbL2 φ muL2 (muL2 xs) :: cL2n.l)) ρ))
  rw [hl]
  replace hφ : ∀ ys, fits [.x, (.i .i64), (.i .i64), (.i .i64), (.i .i64), .x, .x, (.i .i64)] ys → lbL2.ent.pre ys → muL2 ys < muL2 xs → postL2 ys (outsE φ ys 0 lbL2.ent.oks) := hφ
  have F9203 := FC (k := 9203) rfl hS
  have F15 := FC (k := 100000015) rfl (hF e15.nm (by rfl) (by decide) (by decide))
  have F16 := FC (k := 100000016) rfl (hF e16.nm (by rfl) (by decide) (by decide))
  have F17 := FC (k := 100000017) rfl (hF e17.nm (by rfl) (by decide) (by decide))
  have F9303 := FC (k := 100009303) rfl (hF leL3.nm.ent (by rfl) (by decide) (by decide))
  replace hf : fits [.x, (.i .i64), (.i .i64), (.i .i64), (.i .i64), .x, .x, (.i .i64)] xs := hf
  obtain ⟨S, xs0, hx0, hS, hf0⟩ := fits_cons hf
  obtain ⟨now, xs1, hx1, hnow, hf1⟩ := fits_cons hf0
  obtain ⟨bu, xs2, hx2, hbu, hf2⟩ := fits_cons hf1
  obtain ⟨le, xs3, hx3, hle, hf3⟩ := fits_cons hf2
  obtain ⟨mo, xs4, hx4, hmo, hf4⟩ := fits_cons hf3
  obtain ⟨T, xs5, hx5, hT, hf5⟩ := fits_cons hf4
  obtain ⟨D, xs6, hx6, hD, hf6⟩ := fits_cons hf5
  obtain ⟨i, xs7, hx7, hi, hf7⟩ := fits_cons hf6
  have hxn := fits_nil hf7
  subst hxn hx7 hx6 hx5 hx4 hx3 hx2 hx1 hx0
  simp only [norm_i] at hnow hbu hle hmo hi
  obtain ⟨ρ, hρ, hd⟩ := solve (F := l.F) 8 defs_L2 (by kernel_rfl) [S, now, bu, le, mo, T, D, i]
  have hDf := dE_tt (by kernel_rfl) hd
  refine ⟨ρ, hρ, ?_⟩
  have r0 : ρ 0 = S := hρ 0 (by decide)
  have r1 : ρ 1 = now := hρ 1 (by decide)
  have r2 : ρ 2 = bu := hρ 2 (by decide)
  have r3 : ρ 3 = le := hρ 3 (by decide)
  have r4 : ρ 4 = mo := hρ 4 (by decide)
  have r5 : ρ 5 = T := hρ 5 (by decide)
  have r6 : ρ 6 = D := hρ 6 (by decide)
  have r7 : ρ 7 = i := hρ 7 (by decide)
  obtain ⟨v1, hv1, hd1, hn1⟩ := nmd hd 0 rfl
  obtain ⟨v2, hv2, hd2, hn2⟩ := nmd hd 1 rfl
  obtain ⟨v3, hv3, hd3, hn3⟩ := nmd hd 2 rfl
  obtain ⟨v4, hv4, hd4, hn4⟩ := nmd hd 3 rfl
  obtain ⟨v5, hv5, hd5, hn5⟩ := nmd hd 4 rfl
  obtain ⟨v6, hv6, hd6, hn6⟩ := nmd hd 5 rfl
  obtain ⟨v7, hv7, hd7, hn7⟩ := nmd hd 6 rfl
  obtain ⟨v8, hv8, hd8, hn8⟩ := nmd hd 7 rfl
  obtain ⟨v9, hv9, hd9, hn9⟩ := nmd hd 8 rfl
  obtain ⟨v10, hv10, hd10, hn10⟩ := nmd hd 9 rfl
  obtain ⟨v11, hv11, hd11, hn11⟩ := nmd hd 10 rfl
  obtain ⟨v12, hv12, hd12, hn12⟩ := nmd hd 11 rfl
  obtain ⟨v13, hv13, hd13, hn13⟩ := nmd hd 12 rfl
  obtain ⟨v14, hv14, hd14, hn14⟩ := nmd hd 13 rfl
  obtain ⟨v15, hv15, hd15, hn15⟩ := nmd hd 14 rfl
  obtain ⟨v16, hv16, hd16, hn16⟩ := nmd hd 15 rfl
  obtain ⟨v17, hv17, hd17, hn17⟩ := nmd hd 16 rfl
  obtain ⟨v18, hv18, hd18, hn18⟩ := nmd hd 17 rfl
  simp only [norm_i] at hn2 hn3 hn4 hn5 hn7 hn8 hn10 hn11 hn12 hn13 hn16 hn18
  simp (disch := omega) only [norm_i, F15, F16, F17, F9303, Ent.nm_fn, r0, r1, hnow, r2, hbu, r3, hle, r4, hmo, r5, r6, r7, hi, hv1, hv2, hn2, hv3, hn3, hv4, hn4, hv5, hn5, hv6, hv7, hn7, hv8, hn8, hv9, hv10, hn10, hv11, hn11, hv12, hn12, hv13, hn13, hv14, hv15, hv16, hn16, hv17, hv18, hn18, ewA, ewL, preC, binI, dvI, shI, cmpB, env, bi, List.headD, List.tail, List.map, Nat.reduceAdd, ewR, ewB, ewM, if_true, if_false, implies_true, forall_const, ne_eq, reduceCtorEq, Int.reduceEq, Int.reduceLT, Int.reduceLE, Int.reduceToNat, Int.reduceAdd, Int.reduceSub, Int.reduceMul, Int.reduceNeg, Int.reduceBEq, Nat.reduceLT, Nat.reduceEqDiff] at hd1 hd2 hd3 hd4 hd5 hd6 hd7 hd8 hd9 hd10 hd11 hd12 hd13 hd14 hd15 hd16 hd17 hd18
  have hSS := And.intro (And.intro (And.intro (And.intro (And.intro F9203 (And.intro F15 F16)) (And.intro F17 (And.intro F9303 r0))) (And.intro (And.intro r1 (And.intro hnow r2)) (And.intro hbu (And.intro r3 hle)))) (And.intro (And.intro (And.intro r4 (And.intro hmo r5)) (And.intro r6 (And.intro r7 hi))) (And.intro (And.intro hv1 (And.intro hv2 hn2)) (And.intro hv3 (And.intro hn3 hv4))))) (And.intro (And.intro (And.intro (And.intro hn4 (And.intro hv5 hn5)) (And.intro hv6 (And.intro hv7 hn7))) (And.intro (And.intro hv8 (And.intro hn8 hv9)) (And.intro hv10 (And.intro hn10 hv11)))) (And.intro (And.intro (And.intro hn11 (And.intro hv12 hn12)) (And.intro hv13 (And.intro hn13 hv14))) (And.intro (And.intro hv15 (And.intro hv16 hn16)) (And.intro (And.intro hv17 hv18) (And.intro hn18 hDf)))))
  obtain ⟨⟨d, hw, hn0, hs, hb1, hd⟩, ⟨p1, p2⟩, p3, p4, p5, p6⟩ := hp
  replace hw : WV S now bu le mo T 6 d [] := hw
  replace hn0 : NN (dc T) := hn0
  replace hs : mo + lvSum (dc T) 6 ≤ 12 := hs
  replace hb1 : bu = 1 := hb1
  replace hd : ∀ j : Nat, j < 6 → d j = six0 D j := hd
  replace p1 : (dc D).length = 6 := p1
  replace p2 : rowsOK intK (dc D) := p2
  replace p3 : ∀ j : Nat, j < 6 → six0 D j ≤ 336605 := p3
  replace p4 : now = 196606 + i := p4
  replace p5 : 0 ≤ i := p5
  replace p6 : i ≤ 140000 := p6
  subst hb1
  have hmb := hw.mb
  have hsn := hn0.sum 6
  have hle := hw.ler
  by_cases hi : i < 140000
  · obtain ⟨B, q1, q2, q3, q4, q5, q6, q7, q8, q9, q10⟩ := hw.tick (by omega) ⟨hd1, hd2, hd3, hd4, hd5, hd6, hd7, trivial⟩
    rw [List.nil_append] at q1
    replace q9 : lvSum (dc v6) 6 + v7 ≤ lvSum (dc T) 6 := q9
    have hnow : v2 = 196606 + (i + 1) := by rw [q3]; unfold nowT; rw [if_neg (by omega)]; omega
    have hB6 : B.length ≤ 6 := by have := q1.lenB; omega
    have f16 : e16.fn 0 [v1, v2, v3, v4, v5, v6] = (B.length : Int) := q1.lag
    rw [f16] at hd8
    obtain rfl : (B.length : Int) = v8 := (hd8.trans (i64w (by omega) (by omega))).symm
    have y15 : e15.pre [S, now, 1, le, mo, T] := hw.wx
    have y16 : e16.pre [v1, v2, v3, v4, v5, v6] := q1.pre16
    have g7 : ¬ 1 < v7 := by omega
    by_cases hz : B = []
    · subst hz
      have yp : lbL2.ent.pre [v1, v2, v3, v4, v5, v6, D, i + 1] := ⟨⟨d, q1, q10 hn0, by show v5 + lvSum (dc v6) 6 ≤ 12; omega, q4, hd⟩, ⟨p1, p2⟩, p3, hnow, by show 0 ≤ i + 1; omega, by show i + 1 ≤ 140000; omega⟩
      have ym : muL2 [v1, v2, v3, v4, v5, v6, D, i + 1] < muL2 [S, now, 1, le, mo, T, D, i] := by show (140000 - (i + 1)).toNat < (140000 - i).toNat; omega
      have ih := hφ [v1, v2, v3, v4, v5, v6, D, i + 1] ⟨rfl, hn2, hn3, hn4, hn5, rfl, rfl, i64w (by omega) (by omega), trivial⟩ yp ym
      have hz0 : (([] : List Nat).length : Int) = 0 := rfl
      refine ⟨?_, ?_⟩
      · simp (disch := omega) only [ob_L2, q_L2_0, q_L2_1, q_L2_2, q_L2_3, q_L2_4, q_L2_5, q_L2_6, q_L2_7, q_L2_8, q_L2_9, ewA, ewL, preC, binI, dvI, shI, cmpB, env, bi, List.headD, List.tail, List.map, Nat.reduceAdd, ewR, ewB, ewM, if_true, if_false, implies_true, forall_const, ne_eq, reduceCtorEq, Int.reduceEq, Int.reduceLT, Int.reduceLE, Int.reduceToNat, Int.reduceAdd, Int.reduceSub, Int.reduceMul, Int.reduceNeg, Int.reduceBEq, Nat.reduceLT, Nat.reduceEqDiff, hSS, hi, g7, hz0, y15, y16]
        repeat' (first | (with_reducible apply And.intro) | (with_reducible intro _))
        all_goals first | with_reducible assumption | trivial | omega | (split <;> omega)
      · simp (disch := omega) only [es_L2, q_L2_0, q_L2_1, q_L2_2, q_L2_3, q_L2_4, q_L2_5, q_L2_6, q_L2_7, q_L2_8, q_L2_9, ewA, ewL, preC, binI, dvI, shI, cmpB, env, bi, List.headD, List.tail, List.map, Nat.reduceAdd, ewR, ewB, ewM, if_true, if_false, implies_true, forall_const, ne_eq, reduceCtorEq, Int.reduceEq, Int.reduceLT, Int.reduceLE, Int.reduceToNat, Int.reduceAdd, Int.reduceSub, Int.reduceMul, Int.reduceNeg, Int.reduceBEq, Nat.reduceLT, Nat.reduceEqDiff, hSS, hi, g7, hz0]
        exact ih
    · obtain ⟨t1, t2, t3, t4, t5, t6, t7, t8⟩ := q1.take (k := 6) (by decide) ⟨hd9, hd10, hd11, hd12, hd13, hd14, hd15, hd16, trivial⟩
      have hz0 : ¬ ((B.length : Int) = 0) := by
        intro h
        exact hz (List.length_eq_zero_iff.1 (by omega))
      have e6 : B.take (6 : Int).toNat = B := List.take_of_length_le hB6
      have d6 : B.drop (6 : Int).toNat = [] := List.drop_eq_nil_of_le hB6
      rw [e6, d6] at t1
      rw [e6] at t6 t7
      have hL : (dc v15).length = B.length := by rw [t6, List.length_map]
      have wB : IntKind.i64.wrap (B.length : Int) = (B.length : Int) := i64w (by omega) (by omega)
      simp (disch := omega) only [ewA, ewL, preC, binI, dvI, shI, cmpB, env, bi, List.headD, List.tail, List.map, Nat.reduceAdd, ewR, ewB, ewM, if_true, if_false, implies_true, forall_const, ne_eq, reduceCtorEq, Int.reduceEq, Int.reduceLT, Int.reduceLE, Int.reduceToNat, Int.reduceAdd, Int.reduceSub, Int.reduceMul, Int.reduceNeg, Int.reduceBEq, Nat.reduceLT, Nat.reduceEqDiff, hL, wB] at hd17
      have y3 : leL3.ent.pre [v9, v10, v11, v12, v13, v14, D, v15, (B.length : Int), 0] := by
        refine ⟨⟨6, _, _, t1⟩, ⟨p1, p2⟩, ⟨B, t6, q1.nd, rfl, hB6, fun j hj => ?_⟩, by show (0 : Int) ≤ 0; decide, by show 0 ≤ (B.length : Int); omega⟩
        obtain ⟨a1, a2, a3⟩ := (q2 j).1 hj
        refine ⟨by omega, ?_⟩
        show six0 D j = v10
        rw [← hd j (by omega), a3, t2, q3]; unfold nowT; rw [if_neg (by omega)]
      obtain ⟨r1, r2⟩ := (PostOK.use (ks := [.x, (.i .i64), (.i .i64), (.i .i64), (.i .i64), .x, .x, .x, (.i .i64), (.i .i64)]) (os := [.x]) (vs := [v17]) okL3.2 rfl rfl ⟨hd17, trivial⟩) ⟨rfl, (by first | rfl | assumption | exact i64w (by omega) (by omega) | exact u8w (by omega) (by omega)), (by first | rfl | assumption | exact i64w (by omega) (by omega) | exact u8w (by omega) (by omega)), (by first | rfl | assumption | exact i64w (by omega) (by omega) | exact u8w (by omega) (by omega)), (by first | rfl | assumption | exact i64w (by omega) (by omega) | exact u8w (by omega) (by omega)), rfl, rfl, rfl, (by first | rfl | assumption | exact i64w (by omega) (by omega) | exact u8w (by omega) (by omega)), rfl, trivial⟩ y3
      replace r1 : six v17 := r1
      replace r2 : ∀ j : Nat, six0 v17 j = if j ∈ B then 0 else six0 D j := fun j => r2 B t6 j
      have f16' : e16.fn 0 [v9, v10, v11, v12, v13, v14] = 0 := by
        have := t1.lag
        exact this
      rw [f16'] at hd18
      have e18' : v18 = 0 := hd18
      subst t5 e18'
      obtain ⟨u1, u2⟩ := t8 (q10 hn0)
      replace u2 : lvSum (dc v14) 6 ≤ lvSum (dc v6) 6 := u2
      have yp : lbL2.ent.pre [v9, v10, v11, v12, v13, v14, v17, i + 1] := by
        refine ⟨⟨_, t1, u1, by show v13 + lvSum (dc v14) 6 ≤ 12; omega, t3.trans q4, fun j hj => ?_⟩, r1, fun j hj => ?_, t2.trans hnow, by show 0 ≤ i + 1; omega, by show i + 1 ≤ 140000; omega⟩
        · show (if j ∈ B then 0 else d j) = six0 v17 j
          rw [r2 j, hd j hj]
        · show six0 v17 j ≤ 336605
          rw [r2 j]
          split
          · decide
          · exact p3 j hj
      have ym : muL2 [v9, v10, v11, v12, v13, v14, v17, i + 1] < muL2 [S, now, 1, le, mo, T, D, i] := by show (140000 - (i + 1)).toNat < (140000 - i).toNat; omega
      have ih := hφ [v9, v10, v11, v12, v13, v14, v17, i + 1] ⟨rfl, hn10, hn11, hn12, hn13, rfl, rfl, i64w (by omega) (by omega), trivial⟩ yp ym
      have y17 : e17.pre [v1, v2, v3, v4, v5, v6, 6] := q1.wx1 _
      have y16' : e16.pre [v9, v10, v11, v12, v13, v14] := t1.pre16
      refine ⟨?_, ?_⟩
      · simp (disch := omega) only [ob_L2, q_L2_0, q_L2_1, q_L2_2, q_L2_3, q_L2_4, q_L2_5, q_L2_6, q_L2_7, q_L2_8, q_L2_9, ewA, ewL, preC, binI, dvI, shI, cmpB, env, bi, List.headD, List.tail, List.map, Nat.reduceAdd, ewR, ewB, ewM, if_true, if_false, implies_true, forall_const, ne_eq, reduceCtorEq, Int.reduceEq, Int.reduceLT, Int.reduceLE, Int.reduceToNat, Int.reduceAdd, Int.reduceSub, Int.reduceMul, Int.reduceNeg, Int.reduceBEq, Nat.reduceLT, Nat.reduceEqDiff, hSS, hi, g7, hz0, y15, y16, y17, y16', hL, wB]
        repeat' (first | (with_reducible apply And.intro) | (with_reducible intro _))
        all_goals first | with_reducible assumption | trivial | omega | (split <;> omega)
      · simp (disch := omega) only [es_L2, q_L2_0, q_L2_1, q_L2_2, q_L2_3, q_L2_4, q_L2_5, q_L2_6, q_L2_7, q_L2_8, q_L2_9, ewA, ewL, preC, binI, dvI, shI, cmpB, env, bi, List.headD, List.tail, List.map, Nat.reduceAdd, ewR, ewB, ewM, if_true, if_false, implies_true, forall_const, ne_eq, reduceCtorEq, Int.reduceEq, Int.reduceLT, Int.reduceLE, Int.reduceToNat, Int.reduceAdd, Int.reduceSub, Int.reduceMul, Int.reduceNeg, Int.reduceBEq, Nat.reduceLT, Nat.reduceEqDiff, hSS, hi, g7, hz0]
        exact ih
  · have hall : ∀ j : Nat, j < 6 → d j = 0 := fun j hj => by
      have h1 := hw.dr (i := j) (by omega)
      have h2 := p3 j hj
      rw [← hd j hj] at h2
      have h3 := (hw.mem j)
      by_cases hz : d j = 0
      · exact hz
      · exact absurd (h3.2 ⟨by omega, by omega, by omega⟩) (by simp)
    refine ⟨?_, ?_⟩
    · simp (disch := omega) only [ob_L2, q_L2_0, q_L2_1, q_L2_2, q_L2_3, q_L2_4, q_L2_5, q_L2_6, q_L2_7, q_L2_8, q_L2_9, ewA, ewL, preC, binI, dvI, shI, cmpB, env, bi, List.headD, List.tail, List.map, Nat.reduceAdd, ewR, ewB, ewM, if_true, if_false, implies_true, forall_const, ne_eq, reduceCtorEq, Int.reduceEq, Int.reduceLT, Int.reduceLE, Int.reduceToNat, Int.reduceAdd, Int.reduceSub, Int.reduceMul, Int.reduceNeg, Int.reduceBEq, Nat.reduceLT, Nat.reduceEqDiff, hSS, hi]
    · simp (disch := omega) only [es_L2, q_L2_0, q_L2_1, q_L2_2, q_L2_3, q_L2_4, q_L2_5, q_L2_6, q_L2_7, q_L2_8, q_L2_9, ewA, ewL, preC, binI, dvI, shI, cmpB, env, bi, List.headD, List.tail, List.map, Nat.reduceAdd, ewR, ewB, ewM, if_true, if_false, implies_true, forall_const, ne_eq, reduceCtorEq, Int.reduceEq, Int.reduceLT, Int.reduceLE, Int.reduceToNat, Int.reduceAdd, Int.reduceSub, Int.reduceMul, Int.reduceNeg, Int.reduceBEq, Nat.reduceLT, Nat.reduceEqDiff, hSS, hi]
      refine ⟨⟨d, [], hw⟩, by show mo ≤ 12; omega, ?_, ?_⟩
      · show le = 0
        rw [hw.len]
        unfold cntP
        rw [cnt_zero fun j hj => decide_eq_false (by rw [hall j (by omega)]; decide)]; rfl
      · show dc D = List.replicate 6 [0]
        refine List.eq_replicate_iff.2 ⟨p1, fun r hr => ?_⟩
        obtain ⟨j, hj, rfl⟩ := List.mem_iff_getElem.1 hr
        obtain ⟨v, e1, _, e3⟩ := int_row p2 hj
        have e4 : (dc D).getD j [] = (dc D)[j] := by simp [List.getD, hj]
        have : six0 D j = v := e3
        rw [← e4, e1, ← this, ← hd j (by omega), hall j (by omega)]

theorem cX3ok : cX3.OK Try.prog G0 := Ctx.OK.addL (c := ⟨[e22, e13, e19, e20, e21], [(3, pL2, leL2)]⟩) (Ctx.OK.addL (c := ⟨[e22, e13, e19, e20, e21], []⟩) (((((Ctx.OK.nil.addF ok21 rfl).addF ok20 rfl).addF ok19 rfl).addF ok13 rfl).addF ok22 rfl) okL2.1 rfl) okL1.1 rfl

def lng : RL := [[196616], [266606], [327680], [327681], [327980], [336605]]
set_option maxHeartbeats 4000000 in
theorem ok3 : EntryOK Try.prog G0 e3 ∧ PostOK e3 postN := by
  refine cX3ok.nm.entryH mixed ev_3 (by kernel_rfl) _ rfl fun xs hf hp => ?_
  obtain ⟨l, hl, hF⟩ := ctx_P (l0 := cX3n.l)
  show ∃ ρ : Nat → Int, _ ∧ ob_3.tt cX3n.l.F ρ = true ∧ postN xs (es_3.map (E.den cX3n.l.F ρ))
  rw [hl]
  have F13 := FC (k := 100000013) rfl (hF e13.nm (by rfl) (by decide))
  have F19 := FC (k := 100000019) rfl (hF e19.nm (by rfl) (by decide))
  have F20 := FC (k := 100000020) rfl (hF e20.nm (by rfl) (by decide))
  have F21 := FC (k := 100000021) rfl (hF e21.nm (by rfl) (by decide))
  have F22 := FC (k := 100000022) rfl (hF e22.nm (by rfl) (by decide))
  have F9003 := FC (k := 100009003) rfl (hF leL1.nm.ent (by rfl) (by decide))
  have F9203 := FC (k := 100009203) rfl (hF leL2.nm.ent (by rfl) (by decide))
  replace hf : fits [] xs := hf
  have hxn := fits_nil hf
  subst hxn 
  obtain ⟨ρ, hρ, hd⟩ := solve (F := l.F) 0 defs_3 (by kernel_rfl) []
  have hDf := dE_tt (by kernel_rfl) hd
  refine ⟨ρ, hρ, ?_⟩
  obtain ⟨v1, hv1, hd1, hn1⟩ := nmd hd 0 rfl
  obtain ⟨v2, hv2, hd2, hn2⟩ := nmd hd 1 rfl
  obtain ⟨v3, hv3, hd3, hn3⟩ := nmd hd 2 rfl
  obtain ⟨v4, hv4, hd4, hn4⟩ := nmd hd 3 rfl
  obtain ⟨v5, hv5, hd5, hn5⟩ := nmd hd 4 rfl
  obtain ⟨v6, hv6, hd6, hn6⟩ := nmd hd 5 rfl
  obtain ⟨v7, hv7, hd7, hn7⟩ := nmd hd 6 rfl
  obtain ⟨v8, hv8, hd8, hn8⟩ := nmd hd 7 rfl
  obtain ⟨v9, hv9, hd9, hn9⟩ := nmd hd 8 rfl
  obtain ⟨v10, hv10, hd10, hn10⟩ := nmd hd 9 rfl
  obtain ⟨v11, hv11, hd11, hn11⟩ := nmd hd 10 rfl
  obtain ⟨v12, hv12, hd12, hn12⟩ := nmd hd 11 rfl
  obtain ⟨v13, hv13, hd13, hn13⟩ := nmd hd 12 rfl
  obtain ⟨v14, hv14, hd14, hn14⟩ := nmd hd 13 rfl
  obtain ⟨v15, hv15, hd15, hn15⟩ := nmd hd 14 rfl
  obtain ⟨v16, hv16, hd16, hn16⟩ := nmd hd 15 rfl
  obtain ⟨v17, hv17, hd17, hn17⟩ := nmd hd 16 rfl
  obtain ⟨v18, hv18, hd18, hn18⟩ := nmd hd 17 rfl
  obtain ⟨v19, hv19, hd19, hn19⟩ := nmd hd 18 rfl
  obtain ⟨v20, hv20, hd20, hn20⟩ := nmd hd 19 rfl
  obtain ⟨v21, hv21, hd21, hn21⟩ := nmd hd 20 rfl
  obtain ⟨v22, hv22, hd22, hn22⟩ := nmd hd 21 rfl
  simp only [norm_i] at hn2 hn3 hn4 hn5 hn8 hn9 hn10 hn11 hn14 hn15 hn16 hn17 hn21 hn22
  simp (disch := omega) only [norm_i, F13, F19, F20, F21, F9003, F9203, Ent.nm_fn, hv1, hv2, hn2, hv3, hn3, hv4, hn4, hv5, hn5, hv6, hv7, hv8, hn8, hv9, hn9, hv10, hn10, hv11, hn11, hv12, hv13, hv14, hn14, hv15, hn15, hv16, hn16, hv17, hn17, hv18, hv19, hv20, hn20, hv21, hn21, hv22, hn22, ewA, ewL, preC, binI, dvI, shI, cmpB, env, bi, List.headD, List.tail, List.map, Nat.reduceAdd, ewR, ewB, ewM, if_true, if_false, implies_true, forall_const, ne_eq, reduceCtorEq, Int.reduceEq, Int.reduceLT, Int.reduceLE, Int.reduceToNat, Int.reduceAdd, Int.reduceSub, Int.reduceMul, Int.reduceNeg, Int.reduceBEq, Nat.reduceLT, Nat.reduceEqDiff] at hd1 hd2 hd3 hd4 hd5 hd6 hd7 hd8 hd9 hd10 hd11 hd12 hd13 hd14 hd15 hd16 hd17 hd18 hd19 hd20 hd21 hd22
  have hSS := And.intro (And.intro (And.intro (And.intro (And.intro F13 F19) (And.intro F20 (And.intro F21 F22))) (And.intro (And.intro F9003 (And.intro F9203 hv1)) (And.intro hv2 (And.intro hn2 hv3)))) (And.intro (And.intro (And.intro hn3 hv4) (And.intro hn4 (And.intro hv5 hn5))) (And.intro (And.intro hv6 (And.intro hv7 hv8)) (And.intro hn8 (And.intro hv9 hn9))))) (And.intro (And.intro (And.intro (And.intro hv10 hn10) (And.intro hv11 (And.intro hn11 hv12))) (And.intro (And.intro hv13 (And.intro hv14 hn14)) (And.intro hv15 (And.intro hn15 hv16)))) (And.intro (And.intro (And.intro hn16 (And.intro hv17 hn17)) (And.intro hv18 (And.intro hv19 hv20))) (And.intro (And.intro hn20 (And.intro hv21 hn21)) (And.intro hv22 (And.intro hn22 hDf)))))
  obtain ⟨D, hD⟩ : ∃ D, D = cd lng := ⟨_, rfl⟩
  have dD : dc D = lng := by rw [hD]; exact dc_cd _
  have hD' : cd [[196616], [266606], [327680], [327681], [327980], [336605]] = D := hD.symm
  simp only [hD'] at hd7 hd8 hd9 hd10 hd11 hd12 hd13 hd14 hd15 hd16 hd17 hd18 hd19
  have y13 : e13.pre [196606, 6, 1] := by show newW 196606 6 1; unfold newW; omega
  obtain ⟨q1, q2, q3, q4, q5, q6⟩ := WV.new (n := 196606) (c := 6) (b := 1) (by unfold newW; omega) ⟨hd1, hd2, hd3, hd4, hd5, hd6, trivial⟩
  have h6 : six D := by
    refine ⟨by rw [dD]; rfl, ?_⟩
    rw [dD]
    intro r hr
    simp only [lng, List.mem_cons, List.not_mem_nil, or_false] at hr
    rcases hr with rfl | rfl | rfl | rfl | rfl | rfl <;> exact ⟨rfl, trivial⟩
  have hs6 : ∀ j : Nat, j < 6 → 196606 < six0 D j ∧ six0 D j ≤ 336605 := fun j hj => by
    unfold six0
    rw [dD]
    match j, hj with
    | 0, _ => decide
    | 1, _ => decide
    | 2, _ => decide
    | 3, _ => decide
    | 4, _ => decide
    | 5, _ => decide
  have hz : ∀ y, gC (dc v6) y 0 = 0 := fun y => by rw [q6]; exact gC_Tn 6 y 0
  have y1 : leL1.ent.pre [v1, v2, v3, v4, v5, v6, D, 6, 0] :=
    ⟨⟨_, q1, fun y => by rw [show gC (dc (env [v1, v2, v3, v4, v5, v6, D, 6, 0] 5)) y 0 = 0 from hz y]; decide, by show v5 + lvSum (dc v6) 6 ≤ 2 * 0; rw [lvSum_zero hz]; omega, q3, fun j hj => absurd hj (Nat.not_lt_zero _)⟩, h6, hs6, rfl, by show (0 : Int) ≤ 0; decide, by show (0 : Int) ≤ 6; decide, q2⟩
  obtain ⟨r1, r2⟩ := (PostOK.use (ks := [.x, (.i .i64), (.i .i64), (.i .i64), (.i .i64), .x, .x, (.i .i64), (.i .i64)]) (os := [.x, (.i .i64), (.i .i64), (.i .i64), (.i .i64), .x]) (vs := [v7, v8, v9, v10, v11, v12]) okL1.2 rfl rfl ⟨hd7, hd8, hd9, hd10, hd11, hd12, trivial⟩) ⟨rfl, (by first | rfl | assumption | exact i64w (by omega) (by omega) | exact u8w (by omega) (by omega)), (by first | rfl | assumption | exact i64w (by omega) (by omega) | exact u8w (by omega) (by omega)), (by first | rfl | assumption | exact i64w (by omega) (by omega) | exact u8w (by omega) (by omega)), (by first | rfl | assumption | exact i64w (by omega) (by omega) | exact u8w (by omega) (by omega)), rfl, rfl, rfl, rfl, trivial⟩ y1
  replace r1 : WL6 v7 v8 v9 v10 v11 v12 D 12 6 := r1
  replace r2 : v8 = 196606 := r2
  have y2 : leL2.ent.pre [v7, v8, v9, v10, v11, v12, D, 0] := ⟨r1, h6, fun j hj => (hs6 j hj).2, by show v8 = 196606 + 0; omega, by show (0 : Int) ≤ 0; decide, by show (0 : Int) ≤ 140000; decide⟩
  obtain ⟨s1, s2, s3, s4⟩ := (PostOK.use (ks := [.x, (.i .i64), (.i .i64), (.i .i64), (.i .i64), .x, .x, (.i .i64)]) (os := [.x, (.i .i64), (.i .i64), (.i .i64), (.i .i64), .x, .x]) (vs := [v13, v14, v15, v16, v17, v18, v19]) okL2.2 rfl rfl ⟨hd13, hd14, hd15, hd16, hd17, hd18, hd19, trivial⟩) ⟨rfl, (by first | rfl | assumption | exact i64w (by omega) (by omega) | exact u8w (by omega) (by omega)), (by first | rfl | assumption | exact i64w (by omega) (by omega) | exact u8w (by omega) (by omega)), (by first | rfl | assumption | exact i64w (by omega) (by omega) | exact u8w (by omega) (by omega)), (by first | rfl | assumption | exact i64w (by omega) (by omega) | exact u8w (by omega) (by omega)), rfl, rfl, rfl, trivial⟩ y2
  replace s1 : WE v13 v14 v15 v16 v17 v18 6 := s1
  replace s2 : v17 ≤ 12 := s2
  replace s3 : v16 = 0 := s3
  replace s4 : dc v19 = List.replicate 6 [0] := s4
  obtain ⟨d, B, hw⟩ := s1
  have hmb := hw.mb
  have y20 : e20.pre [v13, v14, v15, v16, v17, v18] := hw.lenOK []
  have y21 : e21.pre [v13, v14, v15, v16, v17, v18] := hw.lenOK []
  have e21' : v21 = 0 := hd21.trans (by show IntKind.i64.wrap v16 = 0; rw [s3]; rfl)
  have e22' : v22 = v17 := hd22.trans (i64w (by show _ ≤ v17; omega) (by show v17 ≤ _; omega))
  have e20' : v20 = 1 := by
    rw [hd20]
    show K.b.norm (b2i (dc v19 == dc (cd (List.replicate 6 [0])))) = 1
    rw [s4, dc_cd]; rfl
  have hr : rowsOK intK (List.replicate 6 [0]) := fun r hr => by rw [(List.mem_replicate.1 hr).2]; exact ⟨rfl, trivial⟩
  have y19 : e19.pre [v19, cd (List.replicate 6 [0])] := by
    show ((dc v19).length : Int) < cap8 ∧ ((dc (cd (List.replicate 6 [0]))).length : Int) < cap8 ∧ rowsOK intK (dc v19) ∧ rowsOK intK (dc (cd (List.replicate 6 [0])))
    rw [s4, dc_cd]; exact ⟨by decide, by decide, hr, hr⟩
  have y22 : e22.pre [] := trivial
  subst e20' e21'
  refine ⟨?_, trivial⟩
  simp (disch := omega) only [ob_3, q_3_0, q_3_1, q_3_2, ewA, ewL, preC, binI, dvI, shI, cmpB, env, bi, List.headD, List.tail, List.map, Nat.reduceAdd, ewR, ewB, ewM, if_true, if_false, implies_true, forall_const, ne_eq, reduceCtorEq, Int.reduceEq, Int.reduceLT, Int.reduceLE, Int.reduceToNat, Int.reduceAdd, Int.reduceSub, Int.reduceMul, Int.reduceNeg, Int.reduceBEq, Nat.reduceLT, Nat.reduceEqDiff, hSS, hD', y13, y1, y2, y19, y20, y21, y22]
  repeat' (first | (with_reducible apply And.intro) | (with_reducible intro _))
  all_goals first | with_reducible assumption | trivial | omega | (split <;> omega)

end
end Go.Proofs.Ytfhheeoejncfgaa.Ew
