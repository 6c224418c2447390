/- Layer 19: Tick. -/
import Derived.Test.YtnockichpnaoeaaLb
set_option linter.unusedVariables false
set_option linter.unusedSimpArgs false
namespace Go.Proofs.Ytnockichpnaoeaa.Ew
open Go Go.RowKit
noncomputable section
--P Try.prog G0

/-- A lazy object of which the timers of a list are to be handled. -/
structure LM (S now bu le mo T h ln vn D c : Int) (d a : Nat → Int) (B R : List Nat) : Prop where
  w : WV S now bu le mo T c a B
  hd : 1 ≤ h ∧ h ≤ 4096
  ln : ln = le + (R.length : Int)
  rD : rowsOK intK (dc D)
  cp : ((dc D).length : Int) = c
  dl : ∀ i : Nat, (i : Int) < c → gC (dc D) i 0 = d i
  nd : R.Nodup
  rr : ∀ i ∈ R, (i : Int) < c ∧ a i = 0 ∧ 0 < d i
  ad : ∀ i : Nat, (i : Int) < c → (i ∉ R → (a i = 0 ↔ d i = 0)) ∧ a i ≤ d i ∧ d i ≤ now + 2147483648
  vb : 0 ≤ vn ∧ vn + (R.length : Int) ≤ 1125899906842624
def LMx (xs : List Int) (c : Int) (d a : Nat → Int) (B R : List Nat) : Prop := LM (env xs 0) (env xs 1) (env xs 2) (env xs 3) (env xs 4) (env xs 5) (env xs 6) (env xs 7) (env xs 8) (env xs 9) c d a B R
/-- The deadlines and the alarms when the timers of a list have been handled. -/
def cmD (now : Int) (d : Nat → Int) (R : List Nat) : Nat → Int := fun j => if j ∈ R ∧ d j ≤ now then 0 else d j
def cmA (now : Int) (d a : Nat → Int) (R : List Nat) : Nat → Int := fun j => if j ∈ R then (if d j ≤ now then 0 else d j) else a j
def cmO (now : Int) (d : Nat → Int) (R : List Nat) : List Nat := R.filter fun j => decide (d j ≤ now)
def cmV (now : Int) (d : Nat → Int) (R : List Nat) : Int := ((R.filter fun j => decide (now < d j)).length : Nat)
def idR (l : List Nat) : RL := l.map fun i : Nat => [(i : Int)]
def pLt : List Bool := [true,true,true,true,true,true,false,true,false]
def LsX (xs : List Int) (R : List Nat) : Prop := (dc (env xs 11)).drop (env xs 13).toNat = idR R
def preLt (xs : List Int) : Prop := (∃ c d a B R, LMx xs c d a B R ∧ LsX xs R) ∧ rowsOK intK (dc (env xs 11)) ∧ env xs 12 = ((dc (env xs 11)).length : Int) ∧ 0 ≤ env xs 13 ∧ env xs 13 ≤ env xs 12 ∧ env xs 12 ≤ 4096 ∧ ((dc (env xs 10)).length : Int) ≤ env xs 13
def postLt (xs ys : List Int) : Prop := ∀ c d a B R, LMx xs c d a B R → LsX xs R → (R = [] → ∀ j, j < 11 → env ys j = env xs j) ∧
  LVx ys c (cmD (env xs 1) d R) (cmA (env xs 1) d a R) B ∧ dc (env ys 10) = dc (env xs 10) ++ idR (cmO (env xs 1) d R) ∧ env ys 1 = env xs 1 ∧ env ys 2 = env xs 2 ∧ env ys 4 = env xs 4 ∧ env ys 6 = env xs 6 ∧ env ys 8 = env xs 8 + cmV (env xs 1) d R
def muLt (xs : List Int) : Nat := (env xs 12 - env xs 13).toNat
def hnS : Sh := .fnc 40 [.obj 24 [lzS], .obj 29 [lio]]
def lbLt : LEnt := ⟨⟨9014, 999999, [hnS, lio, i64, i64], [{ j := 2, ty := 102, tl := some k3, cs := [.sc .x, i64, i64, i64, i64, ltm] }, { j := 1, ty := 49, cs := [.ref 2, i64, i64, i64, lio] }, { j := 5, ty := 29, cs := [lio] }], [0, 7], .tup [], z0, preLt⟩, [5, 32, 33, 34], [], [9] ++ (List.range 8).map (· + 34), [.ex 0], 43, []⟩
def cZ4 : Ctx := ⟨[e18, e14], []⟩
def cZ4n : Ctx := cZ4.nm

def a_Lt_0 : List E := [(vX 0), (vI 1), (vI 2), (vI 3), (vI 4), (vX 5), (aI 0 1 [(vX 11), (vI 13), (.lit .x 0)]), (aI 0 1 [(vX 9), (aI 0 1 [(vX 11), (vI 13), (.lit .x 0)]), (.lit .x 0)])]
def defs_Lt : List (Nat × E) := [(640000115203264, (aI 100000018 0 [(vX 0), (vI 1), (vI 2), (vI 3), (vI 4), (vX 5)])),
  (640000089603264, (aX 100000014 0 a_Lt_0)),
  (640000089603265, (aI 100000014 1 a_Lt_0)),
  (640000089603266, (aI 100000014 2 a_Lt_0)),
  (640000089603267, (aI 100000014 3 a_Lt_0)),
  (640000089603268, (aI 100000014 4 a_Lt_0)),
  (640000089603269, (aX 100000014 5 a_Lt_0)),
  (640000089603270, (aI 100000014 6 a_Lt_0))]
def q_Lt_0 : E := (.and (.cmp .geq (aI 0 1 [(vX 11), (vI 13), (.lit .x 0)]) (lI 0)) (.cmp .lss (aI 0 1 [(vX 11), (vI 13), (.lit .x 0)]) (aI 0 0 [(vX 9)])))
def q_Lt_1 : E := (aI 0 1 [(vX 9), (aI 0 1 [(vX 11), (vI 13), (.lit .x 0)]), (.lit .x 0)])
def q_Lt_2 : E := (.cmp .gtr q_Lt_1 (vI 640000115203264))
def q_Lt_3 : E := (.not q_Lt_2)
def q_Lt_4 : E := (aX 0 4 [(vX 10), (aX 0 3 [(aX 0 2 []), (aI 0 1 [(vX 11), (vI 13), (.lit .x 0)])])])
def q_Lt_5 : E := (.ite q_Lt_2 (vX 640000089603264) (vX 0))
def q_Lt_6 : E := (.ite q_Lt_2 (vI 640000089603265) (vI 1))
def q_Lt_7 : E := (.ite q_Lt_2 (vI 640000089603266) (vI 2))
def q_Lt_8 : E := (.ite q_Lt_2 (vI 640000089603267) (vI 3))
def q_Lt_9 : E := (.ite q_Lt_2 (vI 640000089603268) (vI 4))
def q_Lt_10 : E := (.ite q_Lt_2 (vX 640000089603269) (vX 5))
def q_Lt_11 : E := (.ite q_Lt_2 (vI 7) (.bin .sub .i64 (vI 7) (lI 1)))
def q_Lt_12 : E := (.bin .add .i64 (vI 8) (.ite q_Lt_2 (lI 1) (lI 0)))
def q_Lt_13 : E := (.ite q_Lt_2 (vX 9) (aX 0 6 [(vX 9), (aI 0 1 [(vX 11), (vI 13), (.lit .x 0)]), (.lit .x 0), (lI 0)]))
def q_Lt_14 : E := (.ite q_Lt_2 (vX 10) q_Lt_4)
def ob_Lt : E := (.and (.and (.or (.not (.cmp .lss (vI 13) (vI 12))) (.and (.and (.cmp .geq (vI 13) (lI 0)) (.cmp .lss (vI 13) (aI 0 0 [(vX 11)]))) (.and (.and q_Lt_0 (.and (.and (.app .b 100000018 1000000 [(vX 0), (vI 1), (vI 2), (vI 3), (vI 4), (vX 5)]) (dE defs_Lt 0 1)) (.or q_Lt_3 (.and (.app .b 100000014 1000000 [(vX 0), (vI 1), (vI 2), (vI 3), (vI 4), (vX 5), (aI 0 1 [(vX 11), (vI 13), (.lit .x 0)]), q_Lt_1]) (dE defs_Lt 1 7))))) (.or q_Lt_2 (.and q_Lt_0 (.cmp .leq (aX 0 0 [q_Lt_4]) (.lit .x 17592186044416))))))) (.or (.not (.cmp .lss (vI 13) (vI 12))) (.and (.ite q_Lt_2 q_Lt_2 q_Lt_3) (.app .b 9014 1000000 [q_Lt_5, q_Lt_6, q_Lt_7, q_Lt_8, q_Lt_9, q_Lt_10, (vI 6), q_Lt_11, q_Lt_12, q_Lt_13, q_Lt_14, (vX 11), (vI 12), (.bin .add .i64 (vI 13) (lI 1))])))) (.or (.not (.or (.not (.cmp .lss (vI 13) (vI 12))) (.cmp .lss (vI 13) (vI 12)))) (.ite (.not (.cmp .lss (vI 13) (vI 12))) (.not (.cmp .lss (vI 13) (vI 12))) (.cmp .lss (vI 13) (vI 12)))))
def es_Lt : List E := [(.ite (.not (.cmp .lss (vI 13) (vI 12))) (vX 0) (aX 9014 0 [q_Lt_5, q_Lt_6, q_Lt_7, q_Lt_8, q_Lt_9, q_Lt_10, (vI 6), q_Lt_11, q_Lt_12, q_Lt_13, q_Lt_14, (vX 11), (vI 12), (.bin .add .i64 (vI 13) (lI 1))])), (.ite (.not (.cmp .lss (vI 13) (vI 12))) (vI 1) (aI 9014 1 [q_Lt_5, q_Lt_6, q_Lt_7, q_Lt_8, q_Lt_9, q_Lt_10, (vI 6), q_Lt_11, q_Lt_12, q_Lt_13, q_Lt_14, (vX 11), (vI 12), (.bin .add .i64 (vI 13) (lI 1))])), (.ite (.not (.cmp .lss (vI 13) (vI 12))) (vI 2) (aI 9014 2 [q_Lt_5, q_Lt_6, q_Lt_7, q_Lt_8, q_Lt_9, q_Lt_10, (vI 6), q_Lt_11, q_Lt_12, q_Lt_13, q_Lt_14, (vX 11), (vI 12), (.bin .add .i64 (vI 13) (lI 1))])), (.ite (.not (.cmp .lss (vI 13) (vI 12))) (vI 3) (aI 9014 3 [q_Lt_5, q_Lt_6, q_Lt_7, q_Lt_8, q_Lt_9, q_Lt_10, (vI 6), q_Lt_11, q_Lt_12, q_Lt_13, q_Lt_14, (vX 11), (vI 12), (.bin .add .i64 (vI 13) (lI 1))])), (.ite (.not (.cmp .lss (vI 13) (vI 12))) (vI 4) (aI 9014 4 [q_Lt_5, q_Lt_6, q_Lt_7, q_Lt_8, q_Lt_9, q_Lt_10, (vI 6), q_Lt_11, q_Lt_12, q_Lt_13, q_Lt_14, (vX 11), (vI 12), (.bin .add .i64 (vI 13) (lI 1))])), (.ite (.not (.cmp .lss (vI 13) (vI 12))) (vX 5) (aX 9014 5 [q_Lt_5, q_Lt_6, q_Lt_7, q_Lt_8, q_Lt_9, q_Lt_10, (vI 6), q_Lt_11, q_Lt_12, q_Lt_13, q_Lt_14, (vX 11), (vI 12), (.bin .add .i64 (vI 13) (lI 1))])), (.ite (.not (.cmp .lss (vI 13) (vI 12))) (vI 6) (aI 9014 6 [q_Lt_5, q_Lt_6, q_Lt_7, q_Lt_8, q_Lt_9, q_Lt_10, (vI 6), q_Lt_11, q_Lt_12, q_Lt_13, q_Lt_14, (vX 11), (vI 12), (.bin .add .i64 (vI 13) (lI 1))])), (.ite (.not (.cmp .lss (vI 13) (vI 12))) (vI 7) (aI 9014 7 [q_Lt_5, q_Lt_6, q_Lt_7, q_Lt_8, q_Lt_9, q_Lt_10, (vI 6), q_Lt_11, q_Lt_12, q_Lt_13, q_Lt_14, (vX 11), (vI 12), (.bin .add .i64 (vI 13) (lI 1))])), (.ite (.not (.cmp .lss (vI 13) (vI 12))) (vI 8) (aI 9014 8 [q_Lt_5, q_Lt_6, q_Lt_7, q_Lt_8, q_Lt_9, q_Lt_10, (vI 6), q_Lt_11, q_Lt_12, q_Lt_13, q_Lt_14, (vX 11), (vI 12), (.bin .add .i64 (vI 13) (lI 1))])), (.ite (.not (.cmp .lss (vI 13) (vI 12))) (vX 9) (aX 9014 9 [q_Lt_5, q_Lt_6, q_Lt_7, q_Lt_8, q_Lt_9, q_Lt_10, (vI 6), q_Lt_11, q_Lt_12, q_Lt_13, q_Lt_14, (vX 11), (vI 12), (.bin .add .i64 (vI 13) (lI 1))])), (.ite (.not (.cmp .lss (vI 13) (vI 12))) (vX 10) (aX 9014 10 [q_Lt_5, q_Lt_6, q_Lt_7, q_Lt_8, q_Lt_9, q_Lt_10, (vI 6), q_Lt_11, q_Lt_12, q_Lt_13, q_Lt_14, (vX 11), (vI 12), (.bin .add .i64 (vI 13) (lI 1))]))]
def leLt : LEnt := lbLt.fw (fnL lbLt cZ4n.l ob_Lt es_Lt postLt muLt)
theorem ev_Lt : evL Try.prog G0 (tabOf cZ4n.fs) (evFn Try.prog G0 (tabOf cZ4n.fs) (ltOf cZ4n.ls) 40 10) 40 (subL cZ4n.ls 14 pLt) leLt (bodyAt Try.prog 14 pLt) = some (ob_Lt, es_Lt) := by kernel_rfl

def pre14z (xs : List Int) : Prop := preZ xs ∧ env xs 4 + env xs 2 ≤ 1125899906842624 ∧ env xs 8 + 4096 ≤ 1125899906842624
/-- The wheel's Tick and Take, in full. -/
def ex14 (xs ys : List Int) (L : Int) : Prop := ∃ v1 v2 v3 v4 v5 v6 v7 v8 v9 v10 v11 v12 v13 v15, isOut e15.fn (wp6 xs) 0 kW7 [v1, v2, v3, v4, v5, v6, v7] ∧ isOut e17.fn [v1, v2, v3, v4, v5, v6, env xs 6] 0 [.x, .i .i64, .i .i64, .i .i64, .i .i64, .x, .x, .i .i64] [v8, v9, v10, v11, v12, v13, L, v15] ∧ (dc L = [] → wp6 ys = [v8, v9, v10, v11, v12, v13])
def post14 (xs ys : List Int) : Prop := ∃ L, ex14 xs ys L ∧ ∀ c d a B, LVx xs c d a B → ∃ N P : List Nat, dc L = idR P ∧ (∀ i, i ∈ N ↔ env xs 1 < 1099511627776 ∧ (i : Int) < c ∧ a i = env xs 1 + 1) ∧ P = (B ++ N).take (env xs 6).toNat ∧
  LVx ys c (cmD (nowT (env xs 1)) d P) (cmA (nowT (env xs 1)) d a P) ((B ++ N).drop (env xs 6).toNat) ∧ dc (env ys 10) = idR (cmO (nowT (env xs 1)) d P) ∧ env ys 1 = nowT (env xs 1) ∧ env ys 2 = env xs 2 ∧ (env xs 4 ≤ env ys 4 ∧ env ys 4 ≤ env xs 4 + env xs 2) ∧ env ys 6 = env xs 6 ∧ env ys 8 = env xs 8 + cmV (nowT (env xs 1)) d P
def b14z : Ent := ⟨314, 14, [lzS], [wobL, lzO], [], .tup [lio, .lt (.i .i64) 0], z0, pre14z⟩
def cZ5 : Ctx := ⟨[z34, e15, e17], [(14, pLt, leLt)]⟩
def cZ5n : Ctx := cZ5.nm

def a_z14_0 : List E := [(vX 0), (vI 1), (vI 2), (vI 3), (vI 4), (vX 5)]
def a_z14_1 : List E := [(vX 640000096000768), (vI 640000096000769), (vI 640000096000770), (vI 640000096000771), (vI 640000096000772), (vX 640000096000773), (vI 6)]
def a_z14_2 : List E := [(vX 640000108806400), (vI 640000108806401), (vI 640000108806402), (vI 640000108806403), (vI 640000108806404), (vX 640000108806405), (vI 6), (vI 7), (vI 8), (vX 9), (aX 0 2 []), (vX 640000108806406), (aI 0 0 [(vX 640000108806406)]), (lI 0)]
def defs_z14 : List (Nat × E) := [(640000096000768, (aX 100000015 0 a_z14_0)),
  (640000096000769, (aI 100000015 1 a_z14_0)),
  (640000096000770, (aI 100000015 2 a_z14_0)),
  (640000096000771, (aI 100000015 3 a_z14_0)),
  (640000096000772, (aI 100000015 4 a_z14_0)),
  (640000096000773, (aX 100000015 5 a_z14_0)),
  (640000096000774, (aI 100000015 6 a_z14_0)),
  (640000108806400, (aX 100000017 0 a_z14_1)),
  (640000108806401, (aI 100000017 1 a_z14_1)),
  (640000108806402, (aI 100000017 2 a_z14_1)),
  (640000108806403, (aI 100000017 3 a_z14_1)),
  (640000108806404, (aI 100000017 4 a_z14_1)),
  (640000108806405, (aX 100000017 5 a_z14_1)),
  (640000108806406, (aX 100000017 6 a_z14_1)),
  (640000108806407, (aI 100000017 7 a_z14_1)),
  (640057689609472, (aX 100009014 0 a_z14_2)),
  (640057689609473, (aI 100009014 1 a_z14_2)),
  (640057689609474, (aI 100009014 2 a_z14_2)),
  (640057689609475, (aI 100009014 3 a_z14_2)),
  (640057689609476, (aI 100009014 4 a_z14_2)),
  (640057689609477, (aX 100009014 5 a_z14_2)),
  (640057689609478, (aI 100009014 6 a_z14_2)),
  (640057689609479, (aI 100009014 7 a_z14_2)),
  (640057689609480, (aI 100009014 8 a_z14_2)),
  (640057689609481, (aX 100009014 9 a_z14_2)),
  (640057689609482, (aX 100009014 10 a_z14_2))]
def ob_z14 : E := (.and (.app .b 100000334 1000000 [(vX 0), (vI 1), (vI 2), (vI 3), (vI 4), (vX 5), (vI 6), (vI 7), (vI 8), (vX 9)]) (.and (.and (.app .b 100000015 1000000 [(vX 0), (vI 1), (vI 2), (vI 3), (vI 4), (vX 5)]) (dE defs_z14 0 7)) (.and (.and (.app .b 100000017 1000000 [(vX 640000096000768), (vI 640000096000769), (vI 640000096000770), (vI 640000096000771), (vI 640000096000772), (vX 640000096000773), (vI 6)]) (dE defs_z14 7 8)) (.and (.app .b 100009014 1000000 [(vX 640000108806400), (vI 640000108806401), (vI 640000108806402), (vI 640000108806403), (vI 640000108806404), (vX 640000108806405), (vI 6), (vI 7), (vI 8), (vX 9), (aX 0 2 []), (vX 640000108806406), (aI 0 0 [(vX 640000108806406)]), (lI 0)]) (dE defs_z14 15 11)))))
def es_z14 : List E := [(vX 640057689609472), (vI 640057689609473), (vI 640057689609474), (vI 640057689609475), (vI 640057689609476), (vX 640057689609477), (vI 640057689609478), (vI 640057689609479), (vI 640057689609480), (vX 640057689609481), (vX 640057689609482)]
def z14 : Ent := b14z.fw (fnR cZ5n.l.F b14z.np ob_z14 es_z14 post14)
theorem ev_z14 : evE Try.prog G0 (tabOf cZ5n.fs) (ltOf cZ5n.ls) 40 10 z14 = some (ob_z14, es_z14) := by kernel_rfl

section
variable {S now bu le mo T h ln vn D c : Int} {d a : Nat → Int} {B R : List Nat} {r : Nat}
theorem LM.lz (m : LM S now bu le mo T h ln vn D c d a B []) : LZ S now bu le mo T h ln vn D c d a B :=
  ⟨m.w, m.hd, by have := m.ln; simp at this; exact this, m.rD, m.cp, m.dl, fun i hi => ⟨(m.ad i hi).1 (by simp), (m.ad i hi).2⟩, by have := m.vb; simp at this; exact this⟩
theorem LM.later {S' bu' le' mo' T' ln' vn' : Int} {B' : List Nat} (m : LM S now bu le mo T h ln vn D c d a B (r :: R)) (hw : WV S' now bu' le' mo' T' c (upD a r (d r)) B') (hl : le' = le + 1) (hn : ln' = ln) (hv : vn' = vn + 1) : LM S' now bu' le' mo' T' h ln' vn' D c d (upD a r (d r)) B' R := by
  have nd := List.nodup_cons.1 m.nd
  have hln := m.ln
  have hvb := m.vb
  rw [List.length_cons] at hln hvb
  refine ⟨hw, m.hd, by omega, m.rD, m.cp, m.dl, nd.2, fun i hi => ?_, fun i hi => ?_, by omega⟩
  · have e : i ≠ r := fun e => nd.1 (e ▸ hi)
    rw [upD_ne _ _ e]
    exact m.rr i (List.mem_cons_of_mem _ hi)
  · have := m.ad i hi
    by_cases e : i = r
    · subst e
      rw [upD_same]
      exact ⟨fun _ => Iff.rfl, Int.le_refl _, this.2.2⟩
    · rw [upD_ne _ _ e]
      exact ⟨fun hh => this.1 (by simp [e, hh]), this.2⟩
theorem LM.comes {D' ln' : Int} (m : LM S now bu le mo T h ln vn D c d a B (r :: R)) (hD : D' = cd (setC (dc D) r 0 [0])) (hn : ln' = ln - 1) : LM S now bu le mo T h ln' vn D' c (upD d r 0) a B R := by
  have nd := List.nodup_cons.1 m.nd
  have hln := m.ln
  have hvb := m.vb
  have htm := m.w.tm
  rw [List.length_cons] at hln hvb
  obtain ⟨r1, r2, r3⟩ := m.rr r (List.mem_cons_self ..)
  have hcp := m.cp
  have hl' : r < (dc D).length := by omega
  subst hD
  refine ⟨m.w, m.hd, by omega, ?_, ?_, fun y hy => ?_, nd.2, fun i hi => ?_, fun i hi => ?_, by omega⟩
  · rw [dc_cd]; exact m.rD.set hl' rfl
  · rw [dc_cd, setC_len]; exact hcp
  · rw [dc_cd, gC_set0 m.rD hl']; unfold upD; split
    · rfl
    · exact m.dl y hy
  · have e : i ≠ r := fun e => nd.1 (e ▸ hi)
    rw [upD_ne _ _ e]
    exact m.rr i (List.mem_cons_of_mem _ hi)
  · have := m.ad i hi
    by_cases e : i = r
    · subst e
      rw [upD_same]
      exact ⟨fun _ => ⟨fun _ => rfl, fun _ => r2⟩, by omega, by omega⟩
    · rw [upD_ne _ _ e]
      exact ⟨fun hh => this.1 (by simp [e, hh]), this.2⟩
/-- After the wheel's Tick and Take. -/
theorem LZ.due {S1 now1 bu1 le1 mo1 T1 S2 bu2 le2 mo2 T2 : Int} {P N : List Nat} (hz : LZ S now bu le mo T h ln vn D c d a B) (hw1 : WV S1 now1 bu1 le1 mo1 T1 c a (B ++ N)) (h1 : now ≤ now1) (h2 : le1 = le) (hP : P = (B ++ N).take h.toNat)
    (hw2 : WV S2 now1 bu2 le2 mo2 T2 c (fun i => if i ∈ P then 0 else a i) ((B ++ N).drop h.toNat)) (h3 : le2 = le1 - (P.length : Int)) (hv : vn + 4096 ≤ 1125899906842624) :
    LM S2 now1 bu2 le2 mo2 T2 h ln vn D c d (fun i => if i ∈ P then 0 else a i) ((B ++ N).drop h.toNat) P ∧ cmA now1 d (fun i => if i ∈ P then 0 else a i) P = cmA now1 d a P := by
  have hl := hz.ln
  have hh := hz.hd
  have hvb := hz.vb
  have hlen : (P.length : Int) ≤ h := by rw [hP, List.length_take]; omega
  have hsub : ∀ i ∈ P, i ∈ B ++ N := fun i hi => by rw [hP] at hi; exact List.mem_of_mem_take hi
  refine ⟨⟨hw2, hh, by omega, hz.rD, hz.cp, hz.dl, ?_, fun i hi => ?_, fun i hi => ?_, by omega⟩, ?_⟩
  · rw [hP]; exact hw1.nd.sublist (List.take_sublist ..)
  · obtain ⟨m1, m2, m3⟩ := (hw1.mem i).1 (hsub i hi)
    have := hz.ad i m1
    exact ⟨m1, if_pos hi, by omega⟩
  · have := hz.ad i hi
    have hd0 := hz.dr hi
    refine ⟨fun hn => ?_, ?_, by omega⟩
    · show (if i ∈ P then 0 else a i) = 0 ↔ d i = 0
      rw [if_neg hn]; exact this.1
    · show (if i ∈ P then 0 else a i) ≤ d i
      split <;> omega
  · funext j
    unfold cmA
    by_cases e : j ∈ P
    · rw [if_pos e, if_pos e]
    · rw [if_neg e, if_neg e]; exact if_neg e
theorem cm_nilD : cmD now d [] = d := funext fun j => if_neg (by simp)
theorem cm_nilA : cmA now d a [] = a := funext fun j => if_neg (by simp)
theorem cm_later (hr : r ∉ R) (hd : now < d r) : cmD now d (r :: R) = cmD now d R ∧ cmA now d a (r :: R) = cmA now d (upD a r (d r)) R ∧ cmO now d (r :: R) = cmO now d R ∧ cmV now d (r :: R) = cmV now d R + 1 := by
  refine ⟨funext fun j => ?_, funext fun j => ?_, ?_, ?_⟩
  · unfold cmD
    by_cases e : j = r
    · subst e; rw [if_neg (by omega), if_neg (by omega)]
    · simp [e]
  · unfold cmA
    by_cases e : j = r
    · subst e; rw [if_pos (by simp), if_neg (by omega), if_neg hr, upD_same]
    · rw [upD_ne _ _ e]; simp [e]
  · unfold cmO
    rw [List.filter_cons, if_neg (by simp; omega)]
  · unfold cmV
    rw [List.filter_cons, if_pos (by simpa using hd)]; rfl
theorem filter_upD {f : Int → Bool} (hr : r ∉ R) (v : Int) : (R.filter fun j => f (upD d r v j)) = R.filter fun j => f (d j) :=
  List.filter_congr fun j hj => by rw [upD_ne _ _ (show j ≠ r from fun e => hr (e ▸ hj))]
theorem cm_comes (hr : r ∉ R) (hd : d r ≤ now) (ha : a r = 0) : cmD now d (r :: R) = cmD now (upD d r 0) R ∧ cmA now d a (r :: R) = cmA now (upD d r 0) a R ∧ cmO now d (r :: R) = r :: cmO now (upD d r 0) R ∧ cmV now d (r :: R) = cmV now (upD d r 0) R := by
  refine ⟨funext fun j => ?_, funext fun j => ?_, ?_, ?_⟩
  · unfold cmD
    by_cases e : j = r
    · subst e; rw [if_pos ⟨by simp, hd⟩, if_neg (fun hh => hr hh.1), upD_same]
    · rw [upD_ne _ _ e]; simp [e]
  · unfold cmA
    by_cases e : j = r
    · subst e; rw [if_pos (by simp), if_pos hd, if_neg hr, ha]
    · rw [upD_ne _ _ e]; simp [e]
  · unfold cmO
    rw [List.filter_cons, if_pos (by simpa using hd), filter_upD (f := fun x => decide (x ≤ now)) hr]
  · unfold cmV
    rw [List.filter_cons, if_neg (by simp; omega), filter_upD (f := fun x => decide (now < x)) hr]
end
theorem idR_cons {R : List Nat} {x : Int} {t : RL} (h : [x] :: t = idR R) : ∃ q R1, R = q :: R1 ∧ x = (q : Int) ∧ t = idR R1 := by
  cases R with
  | nil => cases h
  | cons q R1 =>
    injection h with h1 h2
    injection h1 with h1 _
    exact ⟨q, R1, rfl, h1, h2⟩
theorem idR_inj : ∀ {R R' : List Nat}, idR R = idR R' → R' = R
  | [], [], _ => rfl
  | [], _ :: _, h => by cases h
  | _ :: _, [], h => by cases h
  | q :: R, q' :: R', h => by
    obtain ⟨q2, R2, e1, e2, e3⟩ := idR_cons (R := q' :: R') (x := (q : Int)) (t := idR R) h
    injection e1 with e4 e5
    subst e4 e5
    rw [idR_inj e3, show q' = q by omega]
theorem cZ4ok : cZ4.OK Try.prog G0 := (Ctx.OK.nil.addF ok14 rfl).addF ok18 rfl

set_option maxHeartbeats 4000000 in
theorem okLt : ItemOK Try.prog G0 14 pLt leLt ∧ PostOK leLt.ent postLt := by
  refine cZ4ok.nm.loopH mixed rfl ⟨_, _, _, Try.func14, rfl, rfl⟩ ev_Lt (by kernel_rfl) _ rfl fun xs hf hp φ hφ => ?_
  obtain ⟨l, hl, hS, hF⟩ := self_H lbLt φ muLt (muLt xs) cZ4n.l (by decide)
  show ∃ ρ : Nat → Int, _ ∧ ob_Lt.tt (Tabs.F (enH lbLt φ muLt (muLt xs) :: cZ4n.l)) ρ = true ∧ postLt xs (es_Lt.map (E.den (Tabs.F (enH lbLt φ muLt (muLt xs) :: cZ4n.l)) ρ))
  rw [hl]
  replace hφ : ∀ ys, fits [.x, (.i .i64), (.i .i64), (.i .i64), (.i .i64), .x, (.i .i64), (.i .i64), (.i .i64), .x, .x, .x, (.i .i64), (.i .i64)] ys → lbLt.ent.pre ys → muLt ys < muLt xs → postLt ys (outsE φ ys 0 lbLt.ent.oks) := hφ
  have F9014 := FC (k := 9014) rfl hS
  have F14 := FC (k := 100000014) rfl (hF e14.nm (by rfl) (by decide) (by decide))
  have F18 := FC (k := 100000018) rfl (hF e18.nm (by rfl) (by decide) (by decide))
  replace hf : fits [.x, (.i .i64), (.i .i64), (.i .i64), (.i .i64), .x, (.i .i64), (.i .i64), (.i .i64), .x, .x, .x, (.i .i64), (.i .i64)] xs := hf
  obtain ⟨S, xs0, hx0, hS, hf0⟩ := fits_cons hf
  obtain ⟨now, xs1, hx1, hnow, hf1⟩ := fits_cons hf0
  obtain ⟨bu, xs2, hx2, hbu, hf2⟩ := fits_cons hf1
  obtain ⟨le, xs3, hx3, hle, hf3⟩ := fits_cons hf2
  obtain ⟨mo, xs4, hx4, hmo, hf4⟩ := fits_cons hf3
  obtain ⟨T, xs5, hx5, hT, hf5⟩ := fits_cons hf4
  obtain ⟨h, xs6, hx6, hh, hf6⟩ := fits_cons hf5
  obtain ⟨ln, xs7, hx7, hln, hf7⟩ := fits_cons hf6
  obtain ⟨vn, xs8, hx8, hvn, hf8⟩ := fits_cons hf7
  obtain ⟨D, xs9, hx9, hD, hf9⟩ := fits_cons hf8
  obtain ⟨O, xs10, hx10, hO, hf10⟩ := fits_cons hf9
  obtain ⟨L, xs11, hx11, hL, hf11⟩ := fits_cons hf10
  obtain ⟨n, xs12, hx12, hn, hf12⟩ := fits_cons hf11
  obtain ⟨i, xs13, hx13, hi, hf13⟩ := fits_cons hf12
  have hxn := fits_nil hf13
  subst hxn hx13 hx12 hx11 hx10 hx9 hx8 hx7 hx6 hx5 hx4 hx3 hx2 hx1 hx0
  simp only [norm_i] at hnow hbu hle hmo hh hln hvn hn hi
  obtain ⟨ρ, hρ, hd⟩ := solve (F := l.F) 14 defs_Lt (by kernel_rfl) [S, now, bu, le, mo, T, h, ln, vn, D, O, L, n, i]
  have hDf := dE_tt (by kernel_rfl) hd
  refine ⟨ρ, hρ, ?_⟩
  have r0 : ρ 0 = S := hρ 0 (by decide)
  have r1 : ρ 1 = now := hρ 1 (by decide)
  have r2 : ρ 2 = bu := hρ 2 (by decide)
  have r3 : ρ 3 = le := hρ 3 (by decide)
  have r4 : ρ 4 = mo := hρ 4 (by decide)
  have r5 : ρ 5 = T := hρ 5 (by decide)
  have r6 : ρ 6 = h := hρ 6 (by decide)
  have r7 : ρ 7 = ln := hρ 7 (by decide)
  have r8 : ρ 8 = vn := hρ 8 (by decide)
  have r9 : ρ 9 = D := hρ 9 (by decide)
  have r10 : ρ 10 = O := hρ 10 (by decide)
  have r11 : ρ 11 = L := hρ 11 (by decide)
  have r12 : ρ 12 = n := hρ 12 (by decide)
  have r13 : ρ 13 = i := hρ 13 (by decide)
  obtain ⟨v1, hv1, hd1, hn1⟩ := nmd hd 0 rfl
  obtain ⟨v2, hv2, hd2, hn2⟩ := nmd hd 1 rfl
  obtain ⟨v3, hv3, hd3, hn3⟩ := nmd hd 2 rfl
  obtain ⟨v4, hv4, hd4, hn4⟩ := nmd hd 3 rfl
  obtain ⟨v5, hv5, hd5, hn5⟩ := nmd hd 4 rfl
  obtain ⟨v6, hv6, hd6, hn6⟩ := nmd hd 5 rfl
  obtain ⟨v7, hv7, hd7, hn7⟩ := nmd hd 6 rfl
  obtain ⟨v8, hv8, hd8, hn8⟩ := nmd hd 7 rfl
  simp only [norm_i] at hn1 hn3 hn4 hn5 hn6 hn8
  simp (disch := omega) only [norm_i, a_Lt_0, F14, F18, Ent.nm_fn, r0, r1, hnow, r2, hbu, r3, hle, r4, hmo, r5, r6, hh, r7, hln, r8, hvn, r9, r10, r11, r12, hn, r13, hi, hv1, hn1, hv2, hv3, hn3, hv4, hn4, hv5, hn5, hv6, hn6, hv7, hv8, hn8, ewA, ewL, preC, binI, dvI, shI, cmpB, env, bi, List.headD, List.tail, List.map, Nat.reduceAdd, ewR, ewB, ewM, if_true, if_false, implies_true, forall_const, ne_eq, reduceCtorEq, Int.reduceEq, Int.reduceLT, Int.reduceLE, Int.reduceToNat, Int.reduceAdd, Int.reduceSub, Int.reduceMul, Int.reduceNeg, Int.reduceBEq, Nat.reduceLT, Nat.reduceEqDiff] at hd1 hd2 hd3 hd4 hd5 hd6 hd7 hd8
  have hSS := And.intro (And.intro (And.intro (And.intro (And.intro F9014 F14) (And.intro F18 (And.intro r0 r1))) (And.intro (And.intro hnow r2) (And.intro hbu (And.intro r3 hle)))) (And.intro (And.intro (And.intro r4 hmo) (And.intro r5 (And.intro r6 hh))) (And.intro (And.intro r7 hln) (And.intro r8 (And.intro hvn r9))))) (And.intro (And.intro (And.intro (And.intro r10 r11) (And.intro r12 (And.intro hn r13))) (And.intro (And.intro hi hv1) (And.intro hn1 (And.intro hv2 hv3)))) (And.intro (And.intro (And.intro hn3 hv4) (And.intro hn4 (And.intro hv5 hn5))) (And.intro (And.intro hv6 (And.intro hn6 hv7)) (And.intro hv8 (And.intro hn8 hDf)))))
  obtain ⟨⟨c, d, a, B, R, hm, hL⟩, p1, p2, p3, p4, p5, p6⟩ := hp
  replace hm : LM S now bu le mo T h ln vn D c d a B R := hm
  replace hL : (dc L).drop i.toNat = idR R := hL
  replace p1 : rowsOK intK (dc L) := p1
  simp only [ewA, ewL, preC, binI, dvI, shI, cmpB, env, bi, List.headD, List.tail, List.map, Nat.reduceAdd] at p2 p3 p4 p5 p6
  have hw := hm.w
  have htm := hw.tm
  have hct := hw.ct
  have hcp := hm.cp
  have hvb := hm.vb
  have wD : IntKind.i64.wrap (((dc D).length : Nat) : Int) = c := by rw [hcp]; exact i64w (by omega) (by omega)
  have wL : IntKind.i64.wrap (((dc L).length : Nat) : Int) = n := by rw [← p2]; exact hn
  have y18 : e18.pre [S, now, bu, le, mo, T] := hw.lenOK []
  have z1 := hw.nowV hd1
  by_cases hi : i < n
  · obtain ⟨r, er, hr, hmem, hdrop⟩ := row_at p1 p3 (by omega)
    obtain ⟨x, r1, rfl, hx, hr⟩ := fits_cons hr
    obtain rfl := fits_nil hr
    simp only [norm_i] at hx
    rw [hdrop] at hL
    obtain ⟨q, R1, rfl, rfl, hL1⟩ := idR_cons hL
    have nd := List.nodup_cons.1 hm.nd
    obtain ⟨g1, g2, g3⟩ := hm.rr q (List.mem_cons_self ..)
    obtain ⟨_, g4, g5⟩ := hm.ad q g1
    have cq := hm.dl q g1
    have c0 := rowsC hm.rD (i := q) (j := 0) (by omega) rfl
    have hvb' := hm.vb
    have hln' := hm.ln
    have hle' := hw.ler
    rw [List.length_cons] at hvb' hln'
    have tq : ((q : Nat) : Int).toNat = q := by omega
    simp (disch := omega) only [ewA, ewL, preC, binI, dvI, shI, cmpB, env, bi, List.headD, List.tail, List.map, Nat.reduceAdd, ewR, ewB, ewM, if_true, if_false, implies_true, forall_const, ne_eq, reduceCtorEq, Int.reduceEq, Int.reduceLT, Int.reduceLE, Int.reduceToNat, Int.reduceAdd, Int.reduceSub, Int.reduceMul, Int.reduceNeg, Int.reduceBEq, Nat.reduceLT, Nat.reduceEqDiff, er, tq, gC_def, c0, cq] at hd2 hd3 hd4 hd5 hd6 hd7 hd8
    have y14 : e14.pre [S, now, bu, le, mo, T, (q : Int), d q] := hw.wx2 _ _
    have wn : IntKind.i64.wrap (vn + 1) = vn + 1 := i64w (by omega) (by omega)
    have wl : IntKind.i64.wrap (ln - 1) = ln - 1 := i64w (by omega) (by omega)
    have wi : IntKind.i64.wrap (i + 1) = i + 1 := i64w (by omega) (by omega)
    have hcm : ∀ {c' : Int} {d' a' : Nat → Int} {B' R' : List Nat}, LM S now bu le mo T h ln vn D c' d' a' B' R' → (dc L).drop i.toNat = idR R' → R' = q :: R1 ∧ c' = c ∧ d' q = d q := fun {c' d' a' B' R'} hm' hL' => by
      rw [hdrop] at hL'
      have e := hm'.cp.symm.trans hm.cp
      exact ⟨idR_inj (hL.symm.trans hL'), e, (hm'.dl q (by omega)).symm.trans cq⟩
    by_cases hd : now < d q
    · obtain ⟨q1, q2, q3, q4, q5, q6, _⟩ := hw.arm (i := (q : Int)) (dd := d q) ⟨by omega, g1⟩ ⟨hd, g5⟩ ⟨hd2, hd3, hd4, hd5, hd6, hd7, hd8, trivial⟩
      have ha0 : ∀ {c' : Int} {a' : Nat → Int} {B' : List Nat}, WV S now bu le mo T c' a' B' → a' q = 0 → B'.erase q = B' := fun hw' h0 => List.erase_of_not_mem fun hm => by
        have := (hw'.mem q).1 hm
        omega
      have hB := ha0 hw g2
      rw [tq, hB] at q1
      rw [tq, g2, if_neg (by omega)] at q6
      subst q2
      have hm1 := hm.later q1 q6 rfl rfl
      have yp : lbLt.ent.pre [v2, v3, v4, v5, v6, v7, h, ln, vn + 1, D, O, L, n, i + 1] := ⟨⟨_, _, _, _, _, hm1, hL1⟩, p1, p2, by show 0 ≤ i + 1; omega, by show i + 1 ≤ n; omega, p5, by show ((dc O).length : Int) ≤ i + 1; omega⟩
      have ym : muLt [v2, v3, v4, v5, v6, v7, h, ln, vn + 1, D, O, L, n, i + 1] < muLt [S, v3, bu, le, mo, T, h, ln, vn, D, O, L, n, i] := by show (n - (i + 1)).toNat < (n - i).toNat; omega
      have i1 := hφ [v2, v3, v4, v5, v6, v7, h, ln, vn + 1, D, O, L, n, i + 1] ⟨rfl, hn3, hn4, hn5, hn6, rfl, hh, hln, wn, rfl, rfl, rfl, hn, wi, trivial⟩ yp ym
      refine ⟨?_, ?_⟩
      · simp (disch := omega) only [ob_Lt, q_Lt_0, q_Lt_1, q_Lt_2, q_Lt_3, q_Lt_4, q_Lt_5, q_Lt_6, q_Lt_7, q_Lt_8, q_Lt_9, q_Lt_10, q_Lt_11, q_Lt_12, q_Lt_13, q_Lt_14, ewA, ewL, preC, binI, dvI, shI, cmpB, env, bi, List.headD, List.tail, List.map, Nat.reduceAdd, ewR, ewB, ewM, if_true, if_false, implies_true, forall_const, ne_eq, reduceCtorEq, Int.reduceEq, Int.reduceLT, Int.reduceLE, Int.reduceToNat, Int.reduceAdd, Int.reduceSub, Int.reduceMul, Int.reduceNeg, Int.reduceBEq, Nat.reduceLT, Nat.reduceEqDiff, hSS, hi, er, tq, gC_def, c0, cq, wD, wL, z1, hd, wn, y18, y14, wi]
        exact ⟨⟨p3, by omega, g1⟩, yp, ym⟩
      · simp (disch := omega) only [es_Lt, q_Lt_0, q_Lt_1, q_Lt_2, q_Lt_3, q_Lt_4, q_Lt_5, q_Lt_6, q_Lt_7, q_Lt_8, q_Lt_9, q_Lt_10, q_Lt_11, q_Lt_12, q_Lt_13, q_Lt_14, ewA, ewL, preC, binI, dvI, shI, cmpB, env, bi, List.headD, List.tail, List.map, Nat.reduceAdd, ewR, ewB, ewM, if_true, if_false, implies_true, forall_const, ne_eq, reduceCtorEq, Int.reduceEq, Int.reduceLT, Int.reduceLE, Int.reduceToNat, Int.reduceAdd, Int.reduceSub, Int.reduceMul, Int.reduceNeg, Int.reduceBEq, Nat.reduceLT, Nat.reduceEqDiff, hSS, hi, er, tq, gC_def, c0, cq, wD, wL, z1, hd, wn, wi]
        intro c' d' a' B' R' hm' hL'
        obtain ⟨rfl, rfl, ed⟩ := hcm hm' hL'
        replace hm' : LM S v3 bu le mo T h ln vn D c' d' a' B' (q :: R1) := hm'
        have a0 := (hm'.rr q (List.mem_cons_self ..)).2.1
        obtain ⟨u1, _, _, _, _, u6, _⟩ := hm'.w.arm (i := (q : Int)) (dd := d q) ⟨by omega, g1⟩ ⟨hd, g5⟩ ⟨hd2, hd3, hd4, hd5, hd6, hd7, hd8, trivial⟩
        rw [tq, ha0 hm'.w a0, ← ed] at u1
        rw [tq, a0, if_neg (by omega)] at u6
        obtain ⟨_, j1, j2, j3, j4, j5, j6, j7⟩ := i1 c' d' _ B' R1 (hm'.later u1 u6 rfl rfl) hL1
        obtain ⟨k1, k2, k3, k4⟩ := cm_later (a := a') (now := v3) nd.1 (show v3 < d' q by rw [ed]; exact hd)
        refine ⟨nofun, ?_, ?_, j3, j4.trans q3, j5.trans q4, j6, ?_⟩
        · show LVx _ c' (cmD v3 d' (q :: R1)) (cmA v3 d' a' (q :: R1)) B'
          rw [k1, k2]; exact j1
        · show _ = dc O ++ idR (cmO v3 d' (q :: R1))
          rw [k3]; exact j2
        · show _ = vn + cmV v3 d' (q :: R1)
          rw [k4]; exact j7.trans (by show vn + 1 + cmV v3 d' R1 = _; omega)
    · have hd' : d q ≤ now := by omega
      obtain ⟨D', eD⟩ : ∃ D', D' = cd (setC (dc D) q 0 [0]) := ⟨_, rfl⟩
      have eD2 : cd (List.set (dc D) q (splR (List.getD (dc D) q []) 0 [0])) = D' := eD.symm
      have hm1 := hm.comes eD rfl
      have lO : (dc O ++ [[(q : Int)]]).length = (dc O).length + 1 := by rw [List.length_append]; rfl
      have yp : lbLt.ent.pre [S, now, bu, le, mo, T, h, ln - 1, vn, D', cd (dc O ++ [[(q : Int)]]), L, n, i + 1] := ⟨⟨_, _, _, _, _, hm1, hL1⟩, p1, p2, by show 0 ≤ i + 1; omega, by show i + 1 ≤ n; omega, p5, by show ((dc (cd (dc O ++ [[(q : Int)]]))).length : Int) ≤ i + 1; rw [dc_cd]; omega⟩
      have ym : muLt [S, now, bu, le, mo, T, h, ln - 1, vn, D', cd (dc O ++ [[(q : Int)]]), L, n, i + 1] < muLt [S, now, bu, le, mo, T, h, ln, vn, D, O, L, n, i] := by show (n - (i + 1)).toNat < (n - i).toNat; omega
      have i1 := hφ [S, now, bu, le, mo, T, h, ln - 1, vn, D', cd (dc O ++ [[(q : Int)]]), L, n, i + 1] ⟨rfl, hnow, hbu, hle, hmo, rfl, hh, wl, hvn, rfl, rfl, rfl, hn, wi, trivial⟩ yp ym
      refine ⟨?_, ?_⟩
      · simp (disch := omega) only [ob_Lt, q_Lt_0, q_Lt_1, q_Lt_2, q_Lt_3, q_Lt_4, q_Lt_5, q_Lt_6, q_Lt_7, q_Lt_8, q_Lt_9, q_Lt_10, q_Lt_11, q_Lt_12, q_Lt_13, q_Lt_14, ewA, ewL, preC, binI, dvI, shI, cmpB, env, bi, List.headD, List.tail, List.map, Nat.reduceAdd, ewR, ewB, ewM, if_true, if_false, implies_true, forall_const, ne_eq, reduceCtorEq, Int.reduceEq, Int.reduceLT, Int.reduceLE, Int.reduceToNat, Int.reduceAdd, Int.reduceSub, Int.reduceMul, Int.reduceNeg, Int.reduceBEq, Nat.reduceLT, Nat.reduceEqDiff, hSS, hi, er, tq, gC_def, c0, cq, wD, wL, z1, hd, wl, y18, wi, Int.add_zero, eD2]
        exact ⟨⟨p3, ⟨by omega, g1⟩, ⟨by omega, g1⟩, by omega⟩, yp, ym⟩
      · simp (disch := omega) only [es_Lt, q_Lt_0, q_Lt_1, q_Lt_2, q_Lt_3, q_Lt_4, q_Lt_5, q_Lt_6, q_Lt_7, q_Lt_8, q_Lt_9, q_Lt_10, q_Lt_11, q_Lt_12, q_Lt_13, q_Lt_14, ewA, ewL, preC, binI, dvI, shI, cmpB, env, bi, List.headD, List.tail, List.map, Nat.reduceAdd, ewR, ewB, ewM, if_true, if_false, implies_true, forall_const, ne_eq, reduceCtorEq, Int.reduceEq, Int.reduceLT, Int.reduceLE, Int.reduceToNat, Int.reduceAdd, Int.reduceSub, Int.reduceMul, Int.reduceNeg, Int.reduceBEq, Nat.reduceLT, Nat.reduceEqDiff, hSS, hi, er, tq, gC_def, c0, cq, wD, wL, z1, hd, wl, wi, Int.add_zero, eD2]
        intro c' d' a' B' R' hm' hL'
        obtain ⟨rfl, rfl, ed⟩ := hcm hm' hL'
        replace hm' : LM S now bu le mo T h ln vn D c' d' a' B' (q :: R1) := hm'
        have a0 := (hm'.rr q (List.mem_cons_self ..)).2.1
        obtain ⟨_, j1, j2, j3, j4, j5, j6, j7⟩ := i1 c' _ a' B' R1 (hm'.comes eD rfl) hL1
        obtain ⟨k1, k2, k3, k4⟩ := cm_comes (a := a') (now := now) nd.1 (show d' q ≤ now by rw [ed]; exact hd') a0
        refine ⟨nofun, ?_, ?_, j3, j4, j5, j6, ?_⟩
        · show LVx _ c' (cmD now d' (q :: R1)) (cmA now d' a' (q :: R1)) B'
          rw [k1, k2]; exact j1
        · show _ = dc O ++ idR (cmO now d' (q :: R1))
          rw [k3]
          exact j2.trans (show dc (cd (dc O ++ [[(q : Int)]])) ++ idR (cmO now (upD d' q 0) R1) = dc O ++ idR (q :: cmO now (upD d' q 0) R1) by rw [dc_cd, List.append_assoc]; rfl)
        · show _ = vn + cmV now d' (q :: R1)
          rw [k4]; exact j7
  · have eR : R = [] := by
      rw [List.drop_eq_nil_of_le (by omega)] at hL
      exact idR_inj (R := []) hL
    subst eR
    refine ⟨?_, ?_⟩
    · simp (disch := omega) only [ob_Lt, q_Lt_0, q_Lt_1, q_Lt_2, q_Lt_3, q_Lt_4, q_Lt_5, q_Lt_6, q_Lt_7, q_Lt_8, q_Lt_9, q_Lt_10, q_Lt_11, q_Lt_12, q_Lt_13, q_Lt_14, ewA, ewL, preC, binI, dvI, shI, cmpB, env, bi, List.headD, List.tail, List.map, Nat.reduceAdd, ewR, ewB, ewM, if_true, if_false, implies_true, forall_const, ne_eq, reduceCtorEq, Int.reduceEq, Int.reduceLT, Int.reduceLE, Int.reduceToNat, Int.reduceAdd, Int.reduceSub, Int.reduceMul, Int.reduceNeg, Int.reduceBEq, Nat.reduceLT, Nat.reduceEqDiff, hSS, hi]
    · simp (disch := omega) only [es_Lt, q_Lt_0, q_Lt_1, q_Lt_2, q_Lt_3, q_Lt_4, q_Lt_5, q_Lt_6, q_Lt_7, q_Lt_8, q_Lt_9, q_Lt_10, q_Lt_11, q_Lt_12, q_Lt_13, q_Lt_14, ewA, ewL, preC, binI, dvI, shI, cmpB, env, bi, List.headD, List.tail, List.map, Nat.reduceAdd, ewR, ewB, ewM, if_true, if_false, implies_true, forall_const, ne_eq, reduceCtorEq, Int.reduceEq, Int.reduceLT, Int.reduceLE, Int.reduceToNat, Int.reduceAdd, Int.reduceSub, Int.reduceMul, Int.reduceNeg, Int.reduceBEq, Nat.reduceLT, Nat.reduceEqDiff, hSS, hi]
      intro c' d' a' B' R' hm' hL'
      replace hm' : LM S now bu le mo T h ln vn D c' d' a' B' R' := hm'
      replace hL' : (dc L).drop i.toNat = idR R' := hL'
      rw [hL] at hL'
      obtain rfl := idR_inj hL'
      refine ⟨fun _ j hj => ?_, ?_⟩
      · match j, hj with
        | 0, _ | 1, _ | 2, _ | 3, _ | 4, _ | 5, _ | 6, _ | 7, _ | 8, _ | 9, _ | 10, _ => rfl
      show LZ S now bu le mo T h ln vn D c' (cmD now d' []) (cmA now d' a' []) B' ∧ dc O = dc O ++ [] ∧ _
      rw [cm_nilD, cm_nilA, List.append_nil]
      exact ⟨hm'.lz, rfl, rfl, rfl, rfl, rfl, (Int.add_zero _).symm⟩

theorem cZ5ok : cZ5.OK Try.prog G0 := Ctx.OK.addL (c := ⟨[z34, e15, e17], []⟩) (((Ctx.OK.nil.addF ok17 rfl).addF ok15 rfl).addF okz34 rfl) okLt.1 rfl

theorem okz14 : EntryOK Try.prog G0 z14 ∧ PostOK z14 post14 := by
  refine cZ5ok.nm.entryH mixed ev_z14 (by kernel_rfl) _ rfl fun xs hf hp => ?_
  obtain ⟨l, hl, hF⟩ := ctx_P (l0 := cZ5n.l)
  show ∃ ρ : Nat → Int, _ ∧ ob_z14.tt cZ5n.l.F ρ = true ∧ post14 xs (es_z14.map (E.den cZ5n.l.F ρ))
  rw [hl]
  have F15 := FC (k := 100000015) rfl (hF e15.nm (by rfl) (by decide))
  have F17 := FC (k := 100000017) rfl (hF e17.nm (by rfl) (by decide))
  have F334 := FC (k := 100000334) rfl (hF z34.nm (by rfl) (by decide))
  have F9014 := FC (k := 100009014) rfl (hF leLt.nm.ent (by rfl) (by decide))
  replace hf : fits [.x, (.i .i64), (.i .i64), (.i .i64), (.i .i64), .x, (.i .i64), (.i .i64), (.i .i64), .x] xs := hf
  obtain ⟨S, xs0, hx0, hS, hf0⟩ := fits_cons hf
  obtain ⟨now, xs1, hx1, hnow, hf1⟩ := fits_cons hf0
  obtain ⟨bu, xs2, hx2, hbu, hf2⟩ := fits_cons hf1
  obtain ⟨le, xs3, hx3, hle, hf3⟩ := fits_cons hf2
  obtain ⟨mo, xs4, hx4, hmo, hf4⟩ := fits_cons hf3
  obtain ⟨T, xs5, hx5, hT, hf5⟩ := fits_cons hf4
  obtain ⟨h, xs6, hx6, hh, hf6⟩ := fits_cons hf5
  obtain ⟨ln, xs7, hx7, hln, hf7⟩ := fits_cons hf6
  obtain ⟨vn, xs8, hx8, hvn, hf8⟩ := fits_cons hf7
  obtain ⟨D, xs9, hx9, hD, hf9⟩ := fits_cons hf8
  have hxn := fits_nil hf9
  subst hxn hx9 hx8 hx7 hx6 hx5 hx4 hx3 hx2 hx1 hx0
  simp only [norm_i] at hnow hbu hle hmo hh hln hvn
  obtain ⟨ρ, hρ, hd⟩ := solve (F := l.F) 10 defs_z14 (by kernel_rfl) [S, now, bu, le, mo, T, h, ln, vn, D]
  have hDf := dE_tt (by kernel_rfl) hd
  refine ⟨ρ, hρ, ?_⟩
  have r0 : ρ 0 = S := hρ 0 (by decide)
  have r1 : ρ 1 = now := hρ 1 (by decide)
  have r2 : ρ 2 = bu := hρ 2 (by decide)
  have r3 : ρ 3 = le := hρ 3 (by decide)
  have r4 : ρ 4 = mo := hρ 4 (by decide)
  have r5 : ρ 5 = T := hρ 5 (by decide)
  have r6 : ρ 6 = h := hρ 6 (by decide)
  have r7 : ρ 7 = ln := hρ 7 (by decide)
  have r8 : ρ 8 = vn := hρ 8 (by decide)
  have r9 : ρ 9 = D := hρ 9 (by decide)
  obtain ⟨v1, hv1, hd1, hn1⟩ := nmd hd 0 rfl
  obtain ⟨v2, hv2, hd2, hn2⟩ := nmd hd 1 rfl
  obtain ⟨v3, hv3, hd3, hn3⟩ := nmd hd 2 rfl
  obtain ⟨v4, hv4, hd4, hn4⟩ := nmd hd 3 rfl
  obtain ⟨v5, hv5, hd5, hn5⟩ := nmd hd 4 rfl
  obtain ⟨v6, hv6, hd6, hn6⟩ := nmd hd 5 rfl
  obtain ⟨v7, hv7, hd7, hn7⟩ := nmd hd 6 rfl
  obtain ⟨v8, hv8, hd8, hn8⟩ := nmd hd 7 rfl
  obtain ⟨v9, hv9, hd9, hn9⟩ := nmd hd 8 rfl
  obtain ⟨v10, hv10, hd10, hn10⟩ := nmd hd 9 rfl
  obtain ⟨v11, hv11, hd11, hn11⟩ := nmd hd 10 rfl
  obtain ⟨v12, hv12, hd12, hn12⟩ := nmd hd 11 rfl
  obtain ⟨v13, hv13, hd13, hn13⟩ := nmd hd 12 rfl
  obtain ⟨v14, hv14, hd14, hn14⟩ := nmd hd 13 rfl
  obtain ⟨v15, hv15, hd15, hn15⟩ := nmd hd 14 rfl
  obtain ⟨v16, hv16, hd16, hn16⟩ := nmd hd 15 rfl
  obtain ⟨v17, hv17, hd17, hn17⟩ := nmd hd 16 rfl
  obtain ⟨v18, hv18, hd18, hn18⟩ := nmd hd 17 rfl
  obtain ⟨v19, hv19, hd19, hn19⟩ := nmd hd 18 rfl
  obtain ⟨v20, hv20, hd20, hn20⟩ := nmd hd 19 rfl
  obtain ⟨v21, hv21, hd21, hn21⟩ := nmd hd 20 rfl
  obtain ⟨v22, hv22, hd22, hn22⟩ := nmd hd 21 rfl
  obtain ⟨v23, hv23, hd23, hn23⟩ := nmd hd 22 rfl
  obtain ⟨v24, hv24, hd24, hn24⟩ := nmd hd 23 rfl
  obtain ⟨v25, hv25, hd25, hn25⟩ := nmd hd 24 rfl
  obtain ⟨v26, hv26, hd26, hn26⟩ := nmd hd 25 rfl
  simp only [norm_i] at hn2 hn3 hn4 hn5 hn7 hn9 hn10 hn11 hn12 hn15 hn17 hn18 hn19 hn20 hn22 hn23 hn24
  simp (disch := omega) only [norm_i, a_z14_0, a_z14_1, a_z14_2, F15, F17, F9014, Ent.nm_fn, r0, r1, hnow, r2, hbu, r3, hle, r4, hmo, r5, r6, hh, r7, hln, r8, hvn, r9, hv1, hv2, hn2, hv3, hn3, hv4, hn4, hv5, hn5, hv6, hv7, hn7, hv8, hv9, hn9, hv10, hn10, hv11, hn11, hv12, hn12, hv13, hv14, hv15, hn15, hv16, hv17, hn17, hv18, hn18, hv19, hn19, hv20, hn20, hv21, hv22, hn22, hv23, hn23, hv24, hn24, hv25, hv26, ewA, ewL, preC, binI, dvI, shI, cmpB, env, bi, List.headD, List.tail, List.map, Nat.reduceAdd, ewR, ewB, ewM, if_true, if_false, implies_true, forall_const, ne_eq, reduceCtorEq, Int.reduceEq, Int.reduceLT, Int.reduceLE, Int.reduceToNat, Int.reduceAdd, Int.reduceSub, Int.reduceMul, Int.reduceNeg, Int.reduceBEq, Nat.reduceLT, Nat.reduceEqDiff] at hd1 hd2 hd3 hd4 hd5 hd6 hd7 hd8 hd9 hd10 hd11 hd12 hd13 hd14 hd15 hd16 hd17 hd18 hd19 hd20 hd21 hd22 hd23 hd24 hd25 hd26
  have hSS := And.intro (And.intro (And.intro (And.intro (And.intro (And.intro F15 F17) (And.intro F334 F9014)) (And.intro (And.intro r0 r1) (And.intro hnow r2))) (And.intro (And.intro (And.intro hbu r3) (And.intro hle r4)) (And.intro (And.intro hmo r5) (And.intro r6 hh)))) (And.intro (And.intro (And.intro (And.intro r7 hln) (And.intro r8 hvn)) (And.intro (And.intro r9 hv1) (And.intro hv2 hn2))) (And.intro (And.intro (And.intro hv3 hn3) (And.intro hv4 hn4)) (And.intro (And.intro hv5 hn5) (And.intro hv6 hv7))))) (And.intro (And.intro (And.intro (And.intro (And.intro hn7 hv8) (And.intro hv9 hn9)) (And.intro (And.intro hv10 hn10) (And.intro hv11 hn11))) (And.intro (And.intro (And.intro hv12 hn12) (And.intro hv13 hv14)) (And.intro (And.intro hv15 hn15) (And.intro hv16 hv17)))) (And.intro (And.intro (And.intro (And.intro hn17 hv18) (And.intro hn18 hv19)) (And.intro (And.intro hn19 hv20) (And.intro hn20 hv21))) (And.intro (And.intro (And.intro hv22 hn22) (And.intro hv23 hn23)) (And.intro (And.intro hv24 hn24) (And.intro hv25 (And.intro hv26 hDf))))))
  obtain ⟨⟨c, d, a, B, hz⟩, p1, p2⟩ := hp
  replace hz : LZ S now bu le mo T h ln vn D c d a B := hz
  replace p1 : mo + bu ≤ 1125899906842624 := p1
  replace p2 : vn + 4096 ≤ 1125899906842624 := p2
  have hw := hz.w
  have htm := hw.tm
  have hct := hw.ct
  have hhd := hz.hd
  have y34 : z34.pre [S, now, bu, le, mo, T, h, ln, vn, D] := trivial
  have y15 : e15.pre [S, now, bu, le, mo, T] := hw.wx
  have nT : now ≤ nowT now := by unfold nowT; split <;> omega
  have go : ∀ {c : Int} {d a : Nat → Int} {B : List Nat}, LZ S now bu le mo T h ln vn D c d a B → ∃ N P : List Nat, (∀ i, i ∈ N ↔ now < 1099511627776 ∧ (i : Int) < c ∧ a i = now + 1) ∧ P = (B ++ N).take h.toNat ∧
      LM v8 (nowT now) v10 v11 v12 v13 h ln vn D c d (fun i => if i ∈ P then 0 else a i) ((B ++ N).drop h.toNat) P ∧ cmA (nowT now) d (fun i => if i ∈ P then 0 else a i) P = cmA (nowT now) d a P ∧ dc v14 = idR P ∧ v9 = nowT now ∧ v10 = bu ∧ mo ≤ v12 ∧ v12 ≤ mo + bu ∧ WX [v1, v2, v3, v4, v5, v6, h] ∧ P.length ≤ 4096 := by
    intro c d a B hz
    obtain ⟨N, q1, q2, q3, q4, q5, q6, q7, q8, _⟩ := hz.w.tick p1 ⟨hd1, hd2, hd3, hd4, hd5, hd6, hd7, trivial⟩
    obtain ⟨t1, t2, t3, t4, t5, t6, t7, _⟩ := q1.take (k := h) (by omega) ⟨hd8, hd9, hd10, hd11, hd12, hd13, hd14, hd15, trivial⟩
    rw [q3] at t2
    subst t2
    obtain ⟨m1, m2⟩ := hz.due (P := (B ++ N).take h.toNat) (by rw [q3] at q1; exact q1) nT q5 rfl t1 t7 p2
    refine ⟨N, _, q2, rfl, m1, m2, t6, rfl, t3.trans q4, by omega, by omega, q1.wx1 _, ?_⟩
    rw [List.length_take]; omega
  obtain ⟨N, P, n1, n2, n3, n4, n5, n6, n7, n8, n9, n10, n11⟩ := go hz
  have y17 : e17.pre [v1, v2, v3, v4, v5, v6, h] := n10
  have lP : (dc v14).length = P.length := by rw [n5]; exact List.length_map ..
  have wP : IntKind.i64.wrap (((dc v14).length : Nat) : Int) = (((dc v14).length : Nat) : Int) := i64w (by omega) (by omega)
  simp only [wP] at hd16 hd17 hd18 hd19 hd20 hd21 hd22 hd23 hd24 hd25 hd26
  have rP : rowsOK intK (dc v14) := by
    rw [n5]
    intro r hr
    obtain ⟨j, hj, rfl⟩ := List.mem_map.1 hr
    have := (n3.rr j hj).1
    exact ⟨i64w (by omega) (by omega), trivial⟩
  have yL : leLt.ent.pre [v8, v9, v10, v11, v12, v13, h, ln, vn, D, cd [], v14, (((dc v14).length : Nat) : Int), 0] :=
    ⟨⟨c, d, _, _, P, by rw [n6]; exact n3, n5⟩, rP, rfl, by show (0 : Int) ≤ 0; decide, by show (0 : Int) ≤ (((dc v14).length : Nat) : Int); omega, by show (((dc v14).length : Nat) : Int) ≤ 4096; omega, by show ((dc (cd [])).length : Int) ≤ 0; rw [dc_cd]; decide⟩
  refine ⟨?_, ?_⟩
  · simp (disch := omega) only [ob_z14, ewA, ewL, preC, binI, dvI, shI, cmpB, env, bi, List.headD, List.tail, List.map, Nat.reduceAdd, ewR, ewB, ewM, if_true, if_false, implies_true, forall_const, ne_eq, reduceCtorEq, Int.reduceEq, Int.reduceLT, Int.reduceLE, Int.reduceToNat, Int.reduceAdd, Int.reduceSub, Int.reduceMul, Int.reduceNeg, Int.reduceBEq, Nat.reduceLT, Nat.reduceEqDiff, hSS, y34, y15, y17, wP, yL]
  · simp (disch := omega) only [es_z14, ewA, ewL, preC, binI, dvI, shI, cmpB, env, bi, List.headD, List.tail, List.map, Nat.reduceAdd, ewR, ewB, ewM, if_true, if_false, implies_true, forall_const, ne_eq, reduceCtorEq, Int.reduceEq, Int.reduceLT, Int.reduceLE, Int.reduceToNat, Int.reduceAdd, Int.reduceSub, Int.reduceMul, Int.reduceNeg, Int.reduceBEq, Nat.reduceLT, Nat.reduceEqDiff, hSS]
    have q := (PostOK.use (ks := [.x, (.i .i64), (.i .i64), (.i .i64), (.i .i64), .x, (.i .i64), (.i .i64), (.i .i64), .x, .x, .x, (.i .i64), (.i .i64)]) (os := [.x, (.i .i64), (.i .i64), (.i .i64), (.i .i64), .x, (.i .i64), (.i .i64), (.i .i64), .x, .x]) (vs := [v16, v17, v18, v19, v20, v21, v22, v23, v24, v25, v26]) okLt.2 rfl rfl ⟨hd16, hd17, hd18, hd19, hd20, hd21, hd22, hd23, hd24, hd25, hd26, trivial⟩) ⟨rfl, hn9, hn10, hn11, hn12, rfl, hh, hln, hvn, rfl, rfl, rfl, wP, rfl, trivial⟩ yL
    refine ⟨v14, ⟨v1, v2, v3, v4, v5, v6, v7, v8, v9, v10, v11, v12, v13, v15, ⟨hd1, hd2, hd3, hd4, hd5, hd6, hd7, trivial⟩, ⟨hd8, hd9, hd10, hd11, hd12, hd13, hd14, hd15, trivial⟩, fun hL => ?_⟩, fun c' d' a' B' hz' => ?_⟩
    · have hP : P = [] := idR_inj (R := []) (hL.symm.trans n5)
      have j := (q c d _ _ P (by rw [n6]; exact n3) n5).1 hP
      show [v16, v17, v18, v19, v20, v21] = _
      rw [show v16 = v8 from j 0 (by omega), show v17 = v9 from j 1 (by omega), show v18 = v10 from j 2 (by omega), show v19 = v11 from j 3 (by omega), show v20 = v12 from j 4 (by omega), show v21 = v13 from j 5 (by omega)]
    obtain ⟨N, P', n1, n2, n3, n4, n5', n6, n7, n8, n9, n10, n11⟩ := go hz'
    obtain ⟨_, j1, j2, j3, j4, j5, j6, j7⟩ := q c' d' _ _ P' (by rw [n6]; exact n3) n5'
    replace j3 : v17 = v9 := j3
    replace j5 : v20 = v12 := j5
    refine ⟨N, P', n5', n1, n2, ?_, ?_, j3.trans n6, j4.trans n7, ⟨by show mo ≤ v20; omega, by show v20 ≤ mo + bu; omega⟩, j6, ?_⟩
    · show LVx _ c' (cmD (nowT now) d' P') (cmA (nowT now) d' a' P') _
      rw [← n4, ← n6]; exact j1
    · show _ = idR (cmO (nowT now) d' P')
      rw [← n6]
      exact j2.trans (show dc (cd []) ++ idR (cmO v9 d' P') = idR (cmO v9 d' P') by rw [dc_cd]; rfl)
    · show _ = vn + cmV (nowT now) d' P'
      rw [← n6]; exact j7

end
end Go.Proofs.Ytnockichpnaoeaa.Ew
