/- Layer 19: acts, and ticks after them until there are no timers. -/
import Derived.Test.YtnockichpnaoeaaLo
set_option linter.unusedVariables false
set_option linter.unusedSimpArgs false
namespace Go.Proofs.Ytnockichpnaoeaa.Ew
open Go Go.RowKit
noncomputable section
--P Try.prog G0

def actK : List K := [.i .u8, .i .i64, .i .i64, .i .i64]
/-- Acts have been done, and ticks after them. -/
structure PO (S now bu le mo T h ln vn D c A E lt i : Int) (d a : Nat → Int) (B : List Nat) : Prop where
  p : PZ S now bu le mo T h ln vn D E lt c d a B
  cr : c ≤ 300
  rA : rowsOK actK (dc A)
  lA : ((dc A).length : Int) ≤ 40
  ir : 0 ≤ i ∧ i ≤ ((dc A).length : Int) + 1000
  tr : 0 ≤ lt ∧ lt ≤ i ∧ lt ≤ ((dc A).length : Int)
  nw : now ≤ 1073741824 + 40 * i
  mm : mo ≤ 163840 * i
  dd : ∀ j : Nat, (j : Int) < c → d j ≤ now + 600 ∧ (((dc A).length : Int) < i → d j ≤ now - (i - ((dc A).length : Int)) + 600)
  lv : ((dc A).length : Int) + 600 ≤ i → le + (i - ((dc A).length : Int)) ≤ 900 ∨ le = 0
def acts : Sh := .lst 44 (Row.ofKs actK) false
def preOu (xs : List Int) : Prop := ∃ d a B, PO (env xs 0) (env xs 1) (env xs 2) (env xs 3) (env xs 4) (env xs 5) (env xs 6) (env xs 7) (env xs 8) (env xs 9) (env xs 10) (env xs 11) (env xs 12) (env xs 13) (env xs 14) d a B
def postOu (xs ys : List Int) : Prop := (∃ d a B, LVx ys (env xs 10) d a B) ∧ ((dc (env ys 10)).length : Int) = env xs 10 ∧ env ys 7 = 0 ∧ env ys 8 ≤ env ys 11
def muOu (xs : List Int) : Nat := (((dc (env xs 11)).length : Int) + 1000 - env xs 14).toNat
def pOu : List Bool := [true,true,true,false,true,false]
def lbOu : LEnt := ⟨⟨9124, 999999, [lzS, i64, acts, lnI, i64, i64], [wobL, lzO, obL 5], [4], .tup [i64], z0, preOu⟩, [0, 1, 2, 8, 9, 10], [9], (List.range 6).map (· + 10) ++ (List.range 108).map (· + 23), [.ex 0], 135, []⟩
def cOu : Ctx := ⟨[e25, z16.nm, z15.nm, z13.nm, z19.nm], [(24, pTy, leTy.nm)]⟩

def a_Ou_0 : List E := [(vX 0), (vI 1), (vI 2), (vI 3), (vI 4), (vX 5), (vI 6), (vI 7), (vI 8), (vX 9)]
def a_Ou_1 : List E := [(vX 0), (vI 1), (vI 2), (vI 3), (vI 4), (vX 5), (vI 6), (vI 7), (vI 8), (vX 9), (aI 25 0 [(.ite (.cmp .lss (vI 14) (aI 0 0 [(vX 11)])) (aI 0 1 [(vX 11), (vI 14), (.lit .x 1)]) (lI 0)), (vI 10)])]
def a_Ou_2 : List E := [(vX 0), (vI 1), (vI 2), (vI 3), (vI 4), (vX 5), (vI 6), (vI 7), (vI 8), (vX 9), (vX 12), (.bin .add .i64 (lI 1) (aI 25 0 [(.ite (.cmp .lss (vI 14) (aI 0 0 [(vX 11)])) (aI 0 1 [(vX 11), (vI 14), (.lit .x 3)]) (lI 0)), (lI 40)])), (lI 0)]
def a_Ou_3 : List E := [(vX 0), (vI 1), (vI 2), (vI 3), (vI 4), (vX 5), (vI 6), (vI 7), (vI 8), (vX 9), (aI 25 0 [(.ite (.cmp .lss (vI 14) (aI 0 0 [(vX 11)])) (aI 0 1 [(vX 11), (vI 14), (.lit .x 1)]) (lI 0)), (vI 10)]), (.bin .add .i64 (.bin .add .i64 (vI 640002022412096) (lI 1)) (aI 25 0 [(.ite (.cmp .lss (vI 14) (aI 0 0 [(vX 11)])) (aI 0 1 [(vX 11), (vI 14), (.lit .x 2)]) (lI 0)), (lI 600)]))]
def defs_Ou : List (Nat × E) := [(640002016009024, (aI 100000315 0 a_Ou_0)),
  (640002022412096, (aI 100000316 0 a_Ou_0)),
  (640002041617216, (aX 100000319 0 a_Ou_1)),
  (640002041617217, (aI 100000319 1 a_Ou_1)),
  (640002041617218, (aI 100000319 2 a_Ou_1)),
  (640002041617219, (aI 100000319 3 a_Ou_1)),
  (640002041617220, (aI 100000319 4 a_Ou_1)),
  (640002041617221, (aX 100000319 5 a_Ou_1)),
  (640002041617222, (aI 100000319 6 a_Ou_1)),
  (640002041617223, (aI 100000319 7 a_Ou_1)),
  (640002041617224, (aI 100000319 8 a_Ou_1)),
  (640002041617225, (aX 100000319 9 a_Ou_1)),
  (640002041617226, (aI 100000319 10 a_Ou_1)),
  (640057753621312, (aX 100009024 0 a_Ou_2)),
  (640057753621313, (aI 100009024 1 a_Ou_2)),
  (640057753621314, (aI 100009024 2 a_Ou_2)),
  (640057753621315, (aI 100009024 3 a_Ou_2)),
  (640057753621316, (aI 100009024 4 a_Ou_2)),
  (640057753621317, (aX 100009024 5 a_Ou_2)),
  (640057753621318, (aI 100009024 6 a_Ou_2)),
  (640057753621319, (aI 100009024 7 a_Ou_2)),
  (640057753621320, (aI 100009024 8 a_Ou_2)),
  (640057753621321, (aX 100009024 9 a_Ou_2)),
  (640057753621322, (aX 100009024 10 a_Ou_2)),
  (640002003221440, (aX 100000313 0 a_Ou_3)),
  (640002003221441, (aI 100000313 1 a_Ou_3)),
  (640002003221442, (aI 100000313 2 a_Ou_3)),
  (640002003221443, (aI 100000313 3 a_Ou_3)),
  (640002003221444, (aI 100000313 4 a_Ou_3)),
  (640002003221445, (aX 100000313 5 a_Ou_3)),
  (640002003221446, (aI 100000313 6 a_Ou_3)),
  (640002003221447, (aI 100000313 7 a_Ou_3)),
  (640002003221448, (aI 100000313 8 a_Ou_3)),
  (640002003221449, (aX 100000313 9 a_Ou_3)),
  (640002003221450, (aI 100000313 10 a_Ou_3))]
def q_Ou_0 : E := (.or (.cmp .lss (vI 14) (aI 0 0 [(vX 11)])) (.and (.cmp .gtr (vI 640002016009024) (lI 0)) (.cmp .lss (vI 14) (.bin .add .i64 (aI 0 0 [(vX 11)]) (lI 1000)))))
def q_Ou_1 : E := (.not q_Ou_0)
def q_Ou_2 : E := (.ite (.cmp .lss (vI 14) (aI 0 0 [(vX 11)])) (aI 0 1 [(vX 11), (vI 14), (.lit .x 1)]) (lI 0))
def q_Ou_3 : E := (.ite (.cmp .lss (vI 14) (aI 0 0 [(vX 11)])) (aI 0 1 [(vX 11), (vI 14), (.lit .x 2)]) (lI 0))
def q_Ou_4 : E := (.dv .rem .u8 (.ite (.cmp .lss (vI 14) (aI 0 0 [(vX 11)])) (.app (.i .u8) 0 1 [(vX 11), (vI 14), (.lit .x 0)]) (.lit (.i .u8) 5)) 8)
def q_Ou_5 : E := (.cmp .eql q_Ou_4 (.lit (.i .u8) 4))
def q_Ou_6 : E := (.ite q_Ou_5 q_Ou_5 (.cmp .eql q_Ou_4 (.lit (.i .u8) 7)))
def q_Ou_7 : E := (.not q_Ou_6)
def q_Ou_8 : E := (aI 25 0 [q_Ou_2, (vI 10)])
def q_Ou_9 : E := (.and (.cmp .geq q_Ou_8 (lI 0)) (.cmp .lss q_Ou_8 (aI 0 0 [(vX 12)])))
def q_Ou_10 : E := (aI 0 1 [(vX 12), q_Ou_8, (.lit .x 0)])
def q_Ou_11 : E := (.cmp .gtr q_Ou_10 (lI 0))
def q_Ou_12 : E := (.cmp .eql (.cmp .eql (vI 640002041617226) (lI 0)) q_Ou_11)
def q_Ou_13 : E := (.not q_Ou_12)
def q_Ou_14 : E := (.cmp .eql q_Ou_4 (.lit (.i .u8) 5))
def q_Ou_15 : E := (.ite q_Ou_14 q_Ou_14 (.cmp .eql q_Ou_4 (.lit (.i .u8) 6)))
def q_Ou_16 : E := (.not q_Ou_15)
def q_Ou_17 : E := (.ite (.cmp .lss (vI 14) (aI 0 0 [(vX 11)])) (aI 0 1 [(vX 11), (vI 14), (.lit .x 3)]) (lI 0))
def q_Ou_18 : E := (.bin .add .i64 (.bin .add .i64 (vI 640002022412096) (lI 1)) (aI 25 0 [q_Ou_3, (lI 600)]))
def q_Ou_19 : E := (.and q_Ou_0 (.ite q_Ou_6 q_Ou_12 (.or q_Ou_15 (.not (.cmp .neq (vI 640002003221450) (lI 0))))))
def q_Ou_20 : E := (.ite q_Ou_6 (vX 640002041617216) (.ite q_Ou_15 (vX 640057753621312) (vX 640002003221440)))
def q_Ou_21 : E := (.ite q_Ou_6 (vI 640002041617217) (.ite q_Ou_15 (vI 640057753621313) (vI 640002003221441)))
def q_Ou_22 : E := (.ite q_Ou_6 (vI 640002041617218) (.ite q_Ou_15 (vI 640057753621314) (vI 640002003221442)))
def q_Ou_23 : E := (.ite q_Ou_6 (vI 640002041617219) (.ite q_Ou_15 (vI 640057753621315) (vI 640002003221443)))
def q_Ou_24 : E := (.ite q_Ou_6 (vI 640002041617220) (.ite q_Ou_15 (vI 640057753621316) (vI 640002003221444)))
def q_Ou_25 : E := (.ite q_Ou_6 (vX 640002041617221) (.ite q_Ou_15 (vX 640057753621317) (vX 640002003221445)))
def q_Ou_26 : E := (.ite q_Ou_6 (vI 640002041617222) (.ite q_Ou_15 (vI 640057753621318) (vI 640002003221446)))
def q_Ou_27 : E := (.ite q_Ou_6 (vI 640002041617223) (.ite q_Ou_15 (vI 640057753621319) (vI 640002003221447)))
def q_Ou_28 : E := (.ite q_Ou_6 (vI 640002041617224) (.ite q_Ou_15 (vI 640057753621320) (vI 640002003221448)))
def q_Ou_29 : E := (.ite q_Ou_6 (vX 640002041617225) (.ite q_Ou_15 (vX 640057753621321) (vX 640002003221449)))
def q_Ou_30 : E := (.ite q_Ou_6 (aX 0 6 [(vX 12), q_Ou_8, (.lit .x 0), (lI 0)]) (.ite q_Ou_15 (vX 640057753621322) (aX 0 6 [(vX 12), q_Ou_8, (.lit .x 0), q_Ou_18])))
def q_Ou_31 : E := (.bin .add .i64 (vI 13) (.ite q_Ou_6 (lI 0) (.ite q_Ou_15 (lI 0) (.ite (.and q_Ou_11 (.cmp .gtr q_Ou_18 q_Ou_10)) (lI 1) (lI 0)))))
def q_Ou_32 : E := (aX 9124 10 [q_Ou_20, q_Ou_21, q_Ou_22, q_Ou_23, q_Ou_24, q_Ou_25, q_Ou_26, q_Ou_27, q_Ou_28, q_Ou_29, (vI 10), (vX 11), q_Ou_30, q_Ou_31, (.bin .add .i64 (vI 14) (lI 1))])
def ob_Ou : E := (.and (.and (.and (.or (.cmp .lss (vI 14) (aI 0 0 [(vX 11)])) (.and (.app .b 100000315 1000000 [(vX 0), (vI 1), (vI 2), (vI 3), (vI 4), (vX 5), (vI 6), (vI 7), (vI 8), (vX 9)]) (dE defs_Ou 0 1))) (.or q_Ou_1 (.and (.or (.not (.cmp .lss (vI 14) (aI 0 0 [(vX 11)]))) (.and (.cmp .geq (vI 14) (lI 0)) (.cmp .lss (vI 14) (aI 0 0 [(vX 11)])))) (.and (.and (.app .b 25 1000000 [q_Ou_2, (vI 10)]) (.and (.and (.app .b 100000316 1000000 [(vX 0), (vI 1), (vI 2), (vI 3), (vI 4), (vX 5), (vI 6), (vI 7), (vI 8), (vX 9)]) (dE defs_Ou 1 1)) (.app .b 25 1000000 [q_Ou_3, (lI 600)]))) (.and (.or q_Ou_7 (.and (.and (.and (.app .b 100000319 1000000 [(vX 0), (vI 1), (vI 2), (vI 3), (vI 4), (vX 5), (vI 6), (vI 7), (vI 8), (vX 9), q_Ou_8]) (dE defs_Ou 2 11)) q_Ou_9) (.or q_Ou_13 q_Ou_9))) (.or q_Ou_6 (.and (.or q_Ou_16 (.and (.app .b 25 1000000 [q_Ou_17, (lI 40)]) (.and (.and (.app .b 100009024 1000000 [(vX 0), (vI 1), (vI 2), (vI 3), (vI 4), (vX 5), (vI 6), (vI 7), (vI 8), (vX 9), (vX 12), (.bin .add .i64 (lI 1) (aI 25 0 [q_Ou_17, (lI 40)])), (lI 0)]) (.cmp .eql (aI 0 0 [(vX 640057753621322)]) (aI 0 0 [(vX 12)]))) (dE defs_Ou 13 11)))) (.or q_Ou_15 (.and (.and q_Ou_9 (.and q_Ou_9 (.or (.not q_Ou_11) q_Ou_9))) (.and (.and (.app .b 100000313 1000000 [(vX 0), (vI 1), (vI 2), (vI 3), (vI 4), (vX 5), (vI 6), (vI 7), (vI 8), (vX 9), q_Ou_8, q_Ou_18]) (dE defs_Ou 24 11)) (.or (.cmp .neq (vI 640002003221450) (lI 0)) q_Ou_9))))))))))) (.or (.not q_Ou_19) (.and (.and (.ite q_Ou_6 q_Ou_6 (.ite q_Ou_15 (.and q_Ou_7 q_Ou_15) (.and q_Ou_7 q_Ou_16))) (.app .b 9124 1000000 [q_Ou_20, q_Ou_21, q_Ou_22, q_Ou_23, q_Ou_24, q_Ou_25, q_Ou_26, q_Ou_27, q_Ou_28, q_Ou_29, (vI 10), (vX 11), q_Ou_30, q_Ou_31, (.bin .add .i64 (vI 14) (lI 1))])) (.cmp .eql (aI 0 0 [q_Ou_32]) (aI 0 0 [(vX 12)]))))) (.and (.or (.not (.or q_Ou_1 q_Ou_19)) (.ite q_Ou_1 q_Ou_1 q_Ou_0)) (.not (.and q_Ou_0 (.ite q_Ou_6 q_Ou_13 (.and q_Ou_16 (.cmp .neq (vI 640002003221450) (lI 0))))))))
def es_Ou : List E := [(.ite q_Ou_1 (vX 0) (aX 9124 0 [q_Ou_20, q_Ou_21, q_Ou_22, q_Ou_23, q_Ou_24, q_Ou_25, q_Ou_26, q_Ou_27, q_Ou_28, q_Ou_29, (vI 10), (vX 11), q_Ou_30, q_Ou_31, (.bin .add .i64 (vI 14) (lI 1))])), (.ite q_Ou_1 (vI 1) (aI 9124 1 [q_Ou_20, q_Ou_21, q_Ou_22, q_Ou_23, q_Ou_24, q_Ou_25, q_Ou_26, q_Ou_27, q_Ou_28, q_Ou_29, (vI 10), (vX 11), q_Ou_30, q_Ou_31, (.bin .add .i64 (vI 14) (lI 1))])), (.ite q_Ou_1 (vI 2) (aI 9124 2 [q_Ou_20, q_Ou_21, q_Ou_22, q_Ou_23, q_Ou_24, q_Ou_25, q_Ou_26, q_Ou_27, q_Ou_28, q_Ou_29, (vI 10), (vX 11), q_Ou_30, q_Ou_31, (.bin .add .i64 (vI 14) (lI 1))])), (.ite q_Ou_1 (vI 3) (aI 9124 3 [q_Ou_20, q_Ou_21, q_Ou_22, q_Ou_23, q_Ou_24, q_Ou_25, q_Ou_26, q_Ou_27, q_Ou_28, q_Ou_29, (vI 10), (vX 11), q_Ou_30, q_Ou_31, (.bin .add .i64 (vI 14) (lI 1))])), (.ite q_Ou_1 (vI 4) (aI 9124 4 [q_Ou_20, q_Ou_21, q_Ou_22, q_Ou_23, q_Ou_24, q_Ou_25, q_Ou_26, q_Ou_27, q_Ou_28, q_Ou_29, (vI 10), (vX 11), q_Ou_30, q_Ou_31, (.bin .add .i64 (vI 14) (lI 1))])), (.ite q_Ou_1 (vX 5) (aX 9124 5 [q_Ou_20, q_Ou_21, q_Ou_22, q_Ou_23, q_Ou_24, q_Ou_25, q_Ou_26, q_Ou_27, q_Ou_28, q_Ou_29, (vI 10), (vX 11), q_Ou_30, q_Ou_31, (.bin .add .i64 (vI 14) (lI 1))])), (.ite q_Ou_1 (vI 6) (aI 9124 6 [q_Ou_20, q_Ou_21, q_Ou_22, q_Ou_23, q_Ou_24, q_Ou_25, q_Ou_26, q_Ou_27, q_Ou_28, q_Ou_29, (vI 10), (vX 11), q_Ou_30, q_Ou_31, (.bin .add .i64 (vI 14) (lI 1))])), (.ite q_Ou_1 (vI 7) (aI 9124 7 [q_Ou_20, q_Ou_21, q_Ou_22, q_Ou_23, q_Ou_24, q_Ou_25, q_Ou_26, q_Ou_27, q_Ou_28, q_Ou_29, (vI 10), (vX 11), q_Ou_30, q_Ou_31, (.bin .add .i64 (vI 14) (lI 1))])), (.ite q_Ou_1 (vI 8) (aI 9124 8 [q_Ou_20, q_Ou_21, q_Ou_22, q_Ou_23, q_Ou_24, q_Ou_25, q_Ou_26, q_Ou_27, q_Ou_28, q_Ou_29, (vI 10), (vX 11), q_Ou_30, q_Ou_31, (.bin .add .i64 (vI 14) (lI 1))])), (.ite q_Ou_1 (vX 9) (aX 9124 9 [q_Ou_20, q_Ou_21, q_Ou_22, q_Ou_23, q_Ou_24, q_Ou_25, q_Ou_26, q_Ou_27, q_Ou_28, q_Ou_29, (vI 10), (vX 11), q_Ou_30, q_Ou_31, (.bin .add .i64 (vI 14) (lI 1))])), (.ite q_Ou_1 (vX 12) q_Ou_32), (.ite q_Ou_1 (vI 13) (aI 9124 11 [q_Ou_20, q_Ou_21, q_Ou_22, q_Ou_23, q_Ou_24, q_Ou_25, q_Ou_26, q_Ou_27, q_Ou_28, q_Ou_29, (vI 10), (vX 11), q_Ou_30, q_Ou_31, (.bin .add .i64 (vI 14) (lI 1))]))]
def leOu : LEnt := lbOu.fw (fnL lbOu cOu.l ob_Ou es_Ou postOu muOu)
theorem ev_Ou : evL Try.prog G0 (tabOf cOu.fs) (evFn Try.prog G0 (tabOf cOu.fs) (ltOf cOu.ls) 40 10) 40 (subL cOu.ls 24 pOu) leOu (bodyAt Try.prog 24 pOu) = some (ob_Ou, es_Ou) := by kernel_rfl

theorem cnt_le3 {p1 p2 p : Nat → Bool} : ∀ n, (∀ j, j < n → (if p1 j = true then 1 else 0) ≤ (if p j = true then 1 else 0) + (if p2 j = true then 1 else 0)) → cnt n p1 ≤ cnt n p + cnt n p2
  | 0, _ => Nat.le_refl _
  | n + 1, h => by
    have ih := cnt_le3 n fun j hj => h j (by omega)
    have := h n (by omega)
    rw [cnt_succ', cnt_succ', cnt_succ']
    omega
theorem cnt_eq1 (r : Nat) : ∀ n, cnt n (fun j => decide (j = r)) ≤ if r < n then 1 else 0
  | 0 => Nat.zero_le _
  | n + 1 => by
    have ih := cnt_eq1 r n
    rw [cnt_succ']
    by_cases e : n = r
    · subst e
      rw [if_neg (by omega)] at ih
      rw [if_pos (show decide (n = n) = true from decide_eq_true rfl), if_pos (show n < n + 1 by omega)]
      omega
    · rw [if_neg (show ¬ decide (n = r) = true from fun x => e (of_decide_eq_true x))]
      by_cases h : r < n
      · rw [if_pos h] at ih; rw [if_pos (by omega)]; exact ih
      · rw [if_neg h] at ih; rw [if_neg (by omega)]; exact ih
theorem early_upd {c : Int} {d a d' a' : Nat → Int} {r : Nat} {k : Nat} (h : ∀ j, j ≠ r → d' j = d j ∧ a' j = a j) (hr : a' r < d' r → a r < d r ∨ k = 1) : early c d' a' ≤ early c d a + (k : Nat) := by
  unfold early
  by_cases hk : k = 1
  · have h1 := cnt_le3 (p1 := fun j => decide (a' j < d' j)) (p := fun j => decide (a j < d j)) (p2 := fun j => decide (j = r)) c.toNat fun j hj => by
      by_cases e : j = r
      · rw [decide_eq_true e, if_pos rfl]; split <;> omega
      · obtain ⟨e1, e2⟩ := h j e
        rw [e1, e2]; omega
    have h2 := cnt_eq1 r c.toNat
    have h3 : (if r < c.toNat then 1 else 0) ≤ 1 := by split <;> decide
    omega
  · have h1 := cnt_le2 (p1 := fun j => decide (a' j < d' j)) (p2 := fun _ => false) (p := fun j => decide (a j < d j)) c.toNat fun j hj => by
      by_cases e : j = r
      · subst e
        by_cases hh : a' j < d' j
        · have := (hr hh).resolve_right hk
          rw [decide_eq_true hh, decide_eq_true this]; decide
        · rw [decide_eq_false hh]; exact Nat.zero_le _
      · obtain ⟨e1, e2⟩ := h j e
        rw [e1, e2]; exact Nat.le_refl _
    omega
section
variable {S now bu le mo T h ln vn D c A E lt i : Int} {d a : Nat → Int} {B : List Nat} {S' now' bu' le' mo' T' h' ln' vn' D' E' : Int}
theorem PO.cancel {id e : Int} (o : PO S now bu le mo T h ln vn D c A E lt i d a B) (hi : i < ((dc A).length : Int)) (hid : 0 ≤ id ∧ id < c)
    (ho : isOut z19.fn [S, now, bu, le, mo, T, h, ln, vn, D, id] 0 [.x, .i .i64, .i .i64, .i .i64, .i .i64, .x, .i .i64, .i .i64, .i .i64, .x, .i .i64] [S', now', bu', le', mo', T', h', ln', vn', D', e]) :
    e = (if d id.toNat = 0 then 6 else 0) ∧ PO S' now' bu' le' mo' T' h' ln' vn' D' c A (cd (setC (dc E) id.toNat 0 [0])) lt (i + 1) (upD d id.toNat 0) (upD a id.toNat 0) (B.erase id.toNat) := by
  obtain ⟨z1, e1, m1, m2, m3, m4, m5⟩ := o.p.z.cancel hid ho
  have hl := o.p.lE
  have hl' : id.toNat < (dc E).length := by omega
  have hnw := o.nw
  have hmm := o.mm
  have htr := o.tr
  have hir := o.ir
  have hvl := o.p.vl
  have h1 := early_upd (c := c) (d := d) (a := a) (d' := upD d id.toNat 0) (a' := upD a id.toNat 0) (r := id.toNat) (k := 0) (fun j hj => ⟨upD_ne _ _ hj, upD_ne _ _ hj⟩) (by rw [upD_same, upD_same]; omega)
  refine ⟨e1, ⟨z1, ?_, ?_, fun j hj => ?_, by omega⟩, o.cr, o.rA, o.lA, by omega, by omega, by omega, by omega, fun j hj => ?_, fun hh => by omega⟩
  · rw [dc_cd]; exact o.p.rE.set hl' rfl
  · rw [dc_cd, setC_len]; exact hl
  · rw [dc_cd, gC_set0 o.p.rE hl']; unfold upD; split
    · rfl
    · exact o.p.eE j hj
  · have h2 := o.dd j hj
    have htm := o.p.z.w.tm
    refine ⟨?_, fun hh => by omega⟩
    unfold upD; split <;> omega
theorem PO.touch {id e x t : Int} (o : PO S now bu le mo T h ln vn D c A E lt i d a B) (hi : i < ((dc A).length : Int)) (hid : 0 ≤ id ∧ id < c) (hx : x = now + 1 + t) (ht : 0 ≤ t ∧ t < 600)
    (ho : isOut z13.fn [S, now, bu, le, mo, T, h, ln, vn, D, id, x] 0 [.x, .i .i64, .i .i64, .i .i64, .i .i64, .x, .i .i64, .i .i64, .i .i64, .x, .i .i64] [S', now', bu', le', mo', T', h', ln', vn', D', e]) :
    e = 0 ∧ ∃ d' a' B', PO S' now' bu' le' mo' T' h' ln' vn' D' c A (cd (setC (dc E) id.toNat 0 [x])) (if 0 < d id.toNat ∧ d id.toNat < x then lt + 1 else lt) (i + 1) d' a' B' := by
  obtain ⟨_, z1, e1, m1, m2, m3, m4, m5⟩ := o.p.z.touch hid (x := x) (by omega) ho
  have hl := o.p.lE
  have hl' : id.toNat < (dc E).length := by omega
  have hic : (id.toNat : Int) < c := by omega
  have hnw := o.nw
  have hmm := o.mm
  have htr := o.tr
  have hir := o.ir
  have hvl := o.p.vl
  have htm := o.p.z.w.tm
  have had := o.p.z.ad id.toNat hic
  have hda := o.p.z.w.dr hic
  refine ⟨e1, _, _, _, ⟨z1, ?_, ?_, fun j hj => ?_, ?_⟩, o.cr, o.rA, o.lA, by omega, by split <;> omega, by omega, by omega, fun j hj => ?_, fun hh => by omega⟩
  · rw [dc_cd]; exact o.p.rE.set hl' (i64w (by omega) (by omega))
  · rw [dc_cd, setC_len]; exact hl
  · rw [dc_cd, gC_set0 o.p.rE hl']; unfold upD; split
    · rfl
    · exact o.p.eE j hj
  · by_cases hc : a id.toNat = 0 ∨ x < a id.toNat
    · rw [if_pos hc]
      have h1 := early_upd (c := c) (d := d) (a := a) (d' := upD d id.toNat x) (a' := upD a id.toNat x) (r := id.toNat) (k := 0) (fun j hj => ⟨upD_ne _ _ hj, upD_ne _ _ hj⟩) (by rw [upD_same, upD_same]; omega)
      split <;> omega
    · rw [if_neg hc]
      by_cases hd : 0 < d id.toNat ∧ d id.toNat < x
      · have h1 := early_upd (c := c) (d := d) (a := a) (d' := upD d id.toNat x) (a' := a) (r := id.toNat) (k := 1) (fun j hj => ⟨upD_ne _ _ hj, rfl⟩) (fun _ => Or.inr rfl)
        rw [if_pos hd]; omega
      · have h1 := early_upd (c := c) (d := d) (a := a) (d' := upD d id.toNat x) (a' := a) (r := id.toNat) (k := 0) (fun j hj => ⟨upD_ne _ _ hj, rfl⟩) (by rw [upD_same]; intro hh; exact Or.inl (by omega))
        rw [if_neg hd]; omega
  · have h2 := o.dd j hj
    refine ⟨?_, fun hh => by omega⟩
    unfold upD; split <;> omega
theorem PO.ticks {n : Int} (o : PO S now bu le mo T h ln vn D c A E lt i d a B) (hn : 1 ≤ n ∧ n ≤ 40) (hi : i < ((dc A).length : Int) ∨ n = 1 ∧ ((dc A).length : Int) ≤ i ∧ i < ((dc A).length : Int) + 1000)
    (ho : isOut leTy.ent.fn [S, now, bu, le, mo, T, h, ln, vn, D, E, n, 0] 0 [.x, .i .i64, .i .i64, .i .i64, .i .i64, .x, .i .i64, .i .i64, .i .i64, .x, .x] [S', now', bu', le', mo', T', h', ln', vn', D', E']) :
    leTy.ent.pre [S, now, bu, le, mo, T, h, ln, vn, D, E, n, 0] ∧ ∃ d' a' B', PO S' now' bu' le' mo' T' h' ln' vn' D' c A E' lt (i + 1) d' a' B' := by
  obtain ⟨w1, w2, w3, w4, w5, w6, w7⟩ := o.p.z.ws
  have hnw := o.nw
  have hmm := o.mm
  have htr := o.tr
  have hir := o.ir
  have hlA := o.lA
  have hcr := o.cr
  have yp : leTy.ent.pre [S, now, bu, le, mo, T, h, ln, vn, D, E, n, 0] := ⟨⟨c, d, a, B, lt, o.p, by omega⟩, by show (0 : Int) ≤ 0 ∧ 0 ≤ n ∧ n ≤ 40; omega, by show mo + 4096 * (n - 0) ≤ _; omega, by show now + (n - 0) < _; omega⟩
  have q := PostOK.use (ks := [.x, .i .i64, .i .i64, .i .i64, .i .i64, .x, .i .i64, .i .i64, .i .i64, .x, .x, .i .i64, .i .i64]) okTy.2 rfl rfl ho ⟨rfl, w1, w2, w3, w4, rfl, w5, w6, w7, rfl, rfl, i64w (by omega) (by omega), rfl, trivial⟩ yp
  obtain ⟨d', a', B', p', m1, m2, m3, m4, m5, m6⟩ := q lt c d a B o.p (by omega)
  replace p' : PZ S' now' bu' le' mo' T' h' ln' vn' D' E' lt c d' a' B' := p'
  replace m1 : now' = now + (n - 0) := m1
  replace m3 : mo ≤ mo' ∧ mo' ≤ mo + 4096 * (n - 0) := m3
  replace m6 : ∀ W, (∀ j : Nat, (j : Int) < c → d j ≤ W) → W ≤ now → le' ≤ le - (n - 0) ∨ le' = 0 := m6
  refine ⟨yp, d', a', B', p', hcr, o.rA, hlA, by omega, by omega, by omega, by omega, fun j hj => ?_, fun hh => ?_⟩
  · have h1 := m5 j hj
    have h2 := o.dd j hj
    omega
  · have hi2 : n = 1 ∧ ((dc A).length : Int) ≤ i := by omega
    have hler := p'.z.w.ler
    by_cases h6 : ((dc A).length : Int) + 600 ≤ i
    · have h1 := m6 (now - (i - ((dc A).length : Int)) + 600) (fun j hj => (o.dd j hj).2 (by omega)) (by omega)
      have h2 := o.lv h6
      omega
    · refine Or.inl ?_
      have h1 := p'.z.w.len
      have h2 : cnt c.toNat (fun i => decide (0 < a' i)) ≤ c.toNat := by
        unfold cnt
        exact Nat.le_trans List.countP_le_length (by rw [List.length_range]; exact Nat.le_refl _)
      unfold cntP at h1
      omega
end
theorem e25v {a b : Int} (h : 0 < b ∧ b ≤ 4096) : ∃ y, a % b = y ∧ IntKind.i64.wrap y = y ∧ e25.pre [a, b] ∧ 0 ≤ y ∧ y < b := by
  have h1 := Int.emod_nonneg a (show b ≠ 0 by omega)
  have h2 := Int.emod_lt_of_pos a h.1
  exact ⟨_, rfl, i64w (by omega) (by omega), ⟨by show (0 : Int) < b; omega, by show b ≤ _; omega⟩, h1, h2⟩
theorem PO.rng {S now bu le mo T h ln vn D c A E lt i : Int} {d a : Nat → Int} {B : List Nat} (o : PO S now bu le mo T h ln vn D c A E lt i d a B) :
    ((0 < c ∧ c ≤ 4096) ∧ (c ≤ 300)) ∧ ((dc A).length : Int) ≤ 40 ∧ (0 ≤ i ∧ i ≤ ((dc A).length : Int) + 1000) ∧ (0 ≤ ln ∧ ln ≤ 4096) ∧ (0 ≤ now ∧ now ≤ 1073741824 + 40 * i) ∧
    IntKind.i64.wrap (((dc A).length : Nat) : Int) = (((dc A).length : Nat) : Int) ∧ IntKind.i64.wrap ((((dc A).length : Nat) : Int) + 1000) = (((dc A).length : Nat) : Int) + 1000 ∧ IntKind.i64.wrap (i + 1) = i + 1 ∧ IntKind.i64.wrap (now + 1) = now + 1 ∧ 0 ≤ lt ∧ lt ≤ 40 ∧ IntKind.i64.wrap (lt + 1) = lt + 1 := by
  have h1 := o.p.z.w.ct
  have h2 := o.cr
  have h3 := o.lA
  have h4 := o.ir
  have h5 := o.p.z.lnr
  have h6 := o.p.z.w.tm
  have h7 := o.nw
  have h8 := o.tr
  exact ⟨⟨h1, h2⟩, h3, h4, h5, ⟨h6.1, h7⟩, i64w (by omega) (by omega), i64w (by omega) (by omega), i64w (by omega) (by omega), i64w (by omega) (by omega), h8.1, by omega, i64w (by omega) (by omega)⟩
theorem PO.xw {S now bu le mo T h ln vn D c A E lt i t : Int} {d a : Nat → Int} {B : List Nat} (o : PO S now bu le mo T h ln vn D c A E lt i d a B) (ht : 0 ≤ t ∧ t < 600) : IntKind.i64.wrap (now + 1 + t) = now + 1 + t := by
  have h6 := o.p.z.w.tm
  exact i64w (by omega) (by omega)
theorem cOuok : cOu.OK Try.prog G0 := by
  have h1 : Ctx.OK Try.prog G0 ⟨[e25, z16.nm, z15.nm, z13.nm, z19.nm], []⟩ := ((((Ctx.OK.nil.addF okz19.1.nm rfl).addF okz13.1.nm rfl).addF okz15.nm rfl).addF okz16.nm rfl).addF ok25 rfl
  exact h1.addL (CodeOK.nm okTy.1) rfl

set_option maxHeartbeats 16000000 in
theorem okOu : ItemOK Try.prog G0 24 pOu leOu ∧ PostOK leOu.ent postOu := by
  refine cOuok.loopH mixed rfl ⟨_, _, _, Try.func24, rfl, rfl⟩ ev_Ou (by kernel_rfl) _ rfl fun xs hf hp φ hφ => ?_
  obtain ⟨l, hl, hS, hF⟩ := self_H lbOu φ muOu (muOu xs) cOu.l (by decide)
  show ∃ ρ : Nat → Int, _ ∧ ob_Ou.tt (Tabs.F (enH lbOu φ muOu (muOu xs) :: cOu.l)) ρ = true ∧ postOu xs (es_Ou.map (E.den (Tabs.F (enH lbOu φ muOu (muOu xs) :: cOu.l)) ρ))
  rw [hl]
  replace hφ : ∀ ys, fits [.x, (.i .i64), (.i .i64), (.i .i64), (.i .i64), .x, (.i .i64), (.i .i64), (.i .i64), .x, (.i .i64), .x, .x, (.i .i64), (.i .i64)] ys → lbOu.ent.pre ys → muOu ys < muOu xs → postOu ys (outsE φ ys 0 lbOu.ent.oks) := hφ
  have F25 := FC (k := 25) rfl (hF e25 (by rfl) (by decide) (by decide))
  have F9124 := FC (k := 9124) rfl hS
  have F313 := FC (k := 100000313) rfl (hF z13.nm (by rfl) (by decide) (by decide))
  have F315 := FC (k := 100000315) rfl (hF z15.nm (by rfl) (by decide) (by decide))
  have F316 := FC (k := 100000316) rfl (hF z16.nm (by rfl) (by decide) (by decide))
  have F319 := FC (k := 100000319) rfl (hF z19.nm (by rfl) (by decide) (by decide))
  have F9024 := FC (k := 100009024) rfl (hF leTy.nm.ent (by rfl) (by decide) (by decide))
  replace hf : fits [.x, (.i .i64), (.i .i64), (.i .i64), (.i .i64), .x, (.i .i64), (.i .i64), (.i .i64), .x, (.i .i64), .x, .x, (.i .i64), (.i .i64)] xs := hf
  obtain ⟨S, xs0, hx0, hS, hf0⟩ := fits_cons hf
  obtain ⟨now, xs1, hx1, hnow, hf1⟩ := fits_cons hf0
  obtain ⟨bu, xs2, hx2, hbu, hf2⟩ := fits_cons hf1
  obtain ⟨le, xs3, hx3, hle, hf3⟩ := fits_cons hf2
  obtain ⟨mo, xs4, hx4, hmo, hf4⟩ := fits_cons hf3
  obtain ⟨T, xs5, hx5, hT, hf5⟩ := fits_cons hf4
  obtain ⟨h, xs6, hx6, hh, hf6⟩ := fits_cons hf5
  obtain ⟨ln, xs7, hx7, hln, hf7⟩ := fits_cons hf6
  obtain ⟨vn, xs8, hx8, hvn, hf8⟩ := fits_cons hf7
  obtain ⟨D, xs9, hx9, hD, hf9⟩ := fits_cons hf8
  obtain ⟨c, xs10, hx10, hc, hf10⟩ := fits_cons hf9
  obtain ⟨A, xs11, hx11, hA, hf11⟩ := fits_cons hf10
  obtain ⟨E, xs12, hx12, hE, hf12⟩ := fits_cons hf11
  obtain ⟨lt, xs13, hx13, hlt, hf13⟩ := fits_cons hf12
  obtain ⟨i, xs14, hx14, hi, hf14⟩ := fits_cons hf13
  have hxn := fits_nil hf14
  subst hxn hx14 hx13 hx12 hx11 hx10 hx9 hx8 hx7 hx6 hx5 hx4 hx3 hx2 hx1 hx0
  simp only [norm_i] at hnow hbu hle hmo hh hln hvn hc hlt hi
  obtain ⟨ρ, hρ, hd⟩ := solve (F := l.F) 15 defs_Ou (by kernel_rfl) [S, now, bu, le, mo, T, h, ln, vn, D, c, A, E, lt, i]
  have hDf := dE_tt (by kernel_rfl) hd
  refine ⟨ρ, hρ, ?_⟩
  have r0 : ρ 0 = S := hρ 0 (by decide)
  have r1 : ρ 1 = now := hρ 1 (by decide)
  have r2 : ρ 2 = bu := hρ 2 (by decide)
  have r3 : ρ 3 = le := hρ 3 (by decide)
  have r4 : ρ 4 = mo := hρ 4 (by decide)
  have r5 : ρ 5 = T := hρ 5 (by decide)
  have r6 : ρ 6 = h := hρ 6 (by decide)
  have r7 : ρ 7 = ln := hρ 7 (by decide)
  have r8 : ρ 8 = vn := hρ 8 (by decide)
  have r9 : ρ 9 = D := hρ 9 (by decide)
  have r10 : ρ 10 = c := hρ 10 (by decide)
  have r11 : ρ 11 = A := hρ 11 (by decide)
  have r12 : ρ 12 = E := hρ 12 (by decide)
  have r13 : ρ 13 = lt := hρ 13 (by decide)
  have r14 : ρ 14 = i := hρ 14 (by decide)
  obtain ⟨v1, hv1, hd1, hn1⟩ := nmd hd 0 rfl
  obtain ⟨v2, hv2, hd2, hn2⟩ := nmd hd 1 rfl
  obtain ⟨v3, hv3, hd3, hn3⟩ := nmd hd 2 rfl
  obtain ⟨v4, hv4, hd4, hn4⟩ := nmd hd 3 rfl
  obtain ⟨v5, hv5, hd5, hn5⟩ := nmd hd 4 rfl
  obtain ⟨v6, hv6, hd6, hn6⟩ := nmd hd 5 rfl
  obtain ⟨v7, hv7, hd7, hn7⟩ := nmd hd 6 rfl
  obtain ⟨v8, hv8, hd8, hn8⟩ := nmd hd 7 rfl
  obtain ⟨v9, hv9, hd9, hn9⟩ := nmd hd 8 rfl
  obtain ⟨v10, hv10, hd10, hn10⟩ := nmd hd 9 rfl
  obtain ⟨v11, hv11, hd11, hn11⟩ := nmd hd 10 rfl
  obtain ⟨v12, hv12, hd12, hn12⟩ := nmd hd 11 rfl
  obtain ⟨v13, hv13, hd13, hn13⟩ := nmd hd 12 rfl
  obtain ⟨v14, hv14, hd14, hn14⟩ := nmd hd 13 rfl
  obtain ⟨v15, hv15, hd15, hn15⟩ := nmd hd 14 rfl
  obtain ⟨v16, hv16, hd16, hn16⟩ := nmd hd 15 rfl
  obtain ⟨v17, hv17, hd17, hn17⟩ := nmd hd 16 rfl
  obtain ⟨v18, hv18, hd18, hn18⟩ := nmd hd 17 rfl
  obtain ⟨v19, hv19, hd19, hn19⟩ := nmd hd 18 rfl
  obtain ⟨v20, hv20, hd20, hn20⟩ := nmd hd 19 rfl
  obtain ⟨v21, hv21, hd21, hn21⟩ := nmd hd 20 rfl
  obtain ⟨v22, hv22, hd22, hn22⟩ := nmd hd 21 rfl
  obtain ⟨v23, hv23, hd23, hn23⟩ := nmd hd 22 rfl
  obtain ⟨v24, hv24, hd24, hn24⟩ := nmd hd 23 rfl
  obtain ⟨v25, hv25, hd25, hn25⟩ := nmd hd 24 rfl
  obtain ⟨v26, hv26, hd26, hn26⟩ := nmd hd 25 rfl
  obtain ⟨v27, hv27, hd27, hn27⟩ := nmd hd 26 rfl
  obtain ⟨v28, hv28, hd28, hn28⟩ := nmd hd 27 rfl
  obtain ⟨v29, hv29, hd29, hn29⟩ := nmd hd 28 rfl
  obtain ⟨v30, hv30, hd30, hn30⟩ := nmd hd 29 rfl
  obtain ⟨v31, hv31, hd31, hn31⟩ := nmd hd 30 rfl
  obtain ⟨v32, hv32, hd32, hn32⟩ := nmd hd 31 rfl
  obtain ⟨v33, hv33, hd33, hn33⟩ := nmd hd 32 rfl
  obtain ⟨v34, hv34, hd34, hn34⟩ := nmd hd 33 rfl
  obtain ⟨v35, hv35, hd35, hn35⟩ := nmd hd 34 rfl
  simp only [norm_i] at hn1 hn2 hn4 hn5 hn6 hn7 hn9 hn10 hn11 hn13 hn15 hn16 hn17 hn18 hn20 hn21 hn22 hn26 hn27 hn28 hn29 hn31 hn32 hn33 hn35
  simp (disch := omega) only [norm_i, a_Ou_0, a_Ou_1, a_Ou_2, a_Ou_3, F313, F315, F316, F319, F9024, Ent.nm_fn, r0, r1, hnow, r2, hbu, r3, hle, r4, hmo, r5, r6, hh, r7, hln, r8, hvn, r9, r10, hc, r11, r12, r13, hlt, r14, hi, hv1, hn1, hv2, hn2, hv3, hv4, hn4, hv5, hn5, hv6, hn6, hv7, hn7, hv8, hv9, hn9, hv10, hn10, hv11, hn11, hv12, hv13, hn13, hv14, hv15, hn15, hv16, hn16, hv17, hn17, hv18, hn18, hv19, hv20, hn20, hv21, hn21, hv22, hn22, hv23, hv24, hv25, hv26, hn26, hv27, hn27, hv28, hn28, hv29, hn29, hv30, hv31, hn31, hv32, hn32, hv33, hn33, hv34, hv35, hn35, ewA, ewL, preC, binI, dvI, shI, cmpB, env, bi, List.headD, List.tail, List.map, Nat.reduceAdd, ewR, ewB, ewM, if_true, if_false, implies_true, forall_const, ne_eq, reduceCtorEq, Int.reduceEq, Int.reduceLT, Int.reduceLE, Int.reduceToNat, Int.reduceAdd, Int.reduceSub, Int.reduceMul, Int.reduceNeg, Int.reduceBEq, Nat.reduceLT, Nat.reduceEqDiff] at hd1 hd2 hd3 hd4 hd5 hd6 hd7 hd8 hd9 hd10 hd11 hd12 hd13 hd14 hd15 hd16 hd17 hd18 hd19 hd20 hd21 hd22 hd23 hd24 hd25 hd26 hd27 hd28 hd29 hd30 hd31 hd32 hd33 hd34 hd35
  have hSS := And.intro (And.intro (And.intro (And.intro (And.intro (And.intro F25 F9124) (And.intro F313 (And.intro F315 F316))) (And.intro (And.intro F319 (And.intro F9024 r0)) (And.intro r1 (And.intro hnow r2)))) (And.intro (And.intro (And.intro hbu (And.intro r3 hle)) (And.intro r4 (And.intro hmo r5))) (And.intro (And.intro r6 (And.intro hh r7)) (And.intro hln (And.intro r8 hvn))))) (And.intro (And.intro (And.intro (And.intro r9 r10) (And.intro hc (And.intro r11 r12))) (And.intro (And.intro r13 (And.intro hlt r14)) (And.intro hi (And.intro hv1 hn1)))) (And.intro (And.intro (And.intro hv2 (And.intro hn2 hv3)) (And.intro hv4 (And.intro hn4 hv5))) (And.intro (And.intro hn5 (And.intro hv6 hn6)) (And.intro hv7 (And.intro hn7 hv8)))))) (And.intro (And.intro (And.intro (And.intro (And.intro hv9 hn9) (And.intro hv10 (And.intro hn10 hv11))) (And.intro (And.intro hn11 (And.intro hv12 hv13)) (And.intro hn13 (And.intro hv14 hv15)))) (And.intro (And.intro (And.intro hn15 (And.intro hv16 hn16)) (And.intro hv17 (And.intro hn17 hv18))) (And.intro (And.intro hn18 (And.intro hv19 hv20)) (And.intro hn20 (And.intro hv21 hn21))))) (And.intro (And.intro (And.intro (And.intro hv22 (And.intro hn22 hv23)) (And.intro hv24 (And.intro hv25 hv26))) (And.intro (And.intro hn26 (And.intro hv27 hn27)) (And.intro hv28 (And.intro hn28 hv29)))) (And.intro (And.intro (And.intro hn29 (And.intro hv30 hv31)) (And.intro hn31 (And.intro hv32 hn32))) (And.intro (And.intro hv33 (And.intro hn33 hv34)) (And.intro hv35 (And.intro hn35 hDf))))))
  obtain ⟨d, a, B, o⟩ := hp
  replace o : PO S now bu le mo T h ln vn D c A E lt i d a B := o
  have b1 : v1 = ln := o.p.z.lenV hd1
  have b2 : v2 = now := o.p.z.nowV hd2
  have f1 : ∀ a b, e25.fn 0 [a, b] = a % b := fun _ _ => rfl
  obtain ⟨rc, rlA, rir, rln, rnow, wA, wA1, w1, w2, rlt⟩ := o.rng
  have y15 : z15.pre [S, now, bu, le, mo, T, h, ln, vn, D] := trivial
  have y16 : z16.pre [S, now, bu, le, mo, T, h, ln, vn, D] := o.p.z.p16
  have l0 : IntKind.i64.wrap 0 = 0 := rfl
  have l1 : IntKind.i64.wrap 1 = 1 := rfl
  have l40 : IntKind.i64.wrap 40 = 40 := rfl
  have l600 : IntKind.i64.wrap 600 = 600 := rfl
  have l1000 : IntKind.i64.wrap 1000 = 1000 := rfl
  have l5 : IntKind.u8.wrap 5 = 5 := rfl
  have fin : ∀ S' now' bu' le' mo' T' h' ln' vn' D' E' lt' : Int, (∃ d' a' B', PO S' now' bu' le' mo' T' h' ln' vn' D' c A E' lt' (i + 1) d' a' B') →
      lbOu.ent.pre [S', now', bu', le', mo', T', h', ln', vn', D', c, A, E', lt', i + 1] ∧ muOu [S', now', bu', le', mo', T', h', ln', vn', D', c, A, E', lt', i + 1] < muOu [S, now, bu, le, mo, T, h, ln, vn, D, c, A, E, lt, i] ∧
      (dc (φ 10 [S', now', bu', le', mo', T', h', ln', vn', D', c, A, E', lt', i + 1])).length = (dc E).length ∧
      postOu [S, now, bu, le, mo, T, h, ln, vn, D, c, A, E, lt, i] (outsE φ [S', now', bu', le', mo', T', h', ln', vn', D', c, A, E', lt', i + 1] 0 lbOu.ent.oks) := fun S' now' bu' le' mo' T' h' ln' vn' D' E' lt' ⟨d', a', B', o'⟩ => by
    obtain ⟨g1, g2, g3, g4, g5, g6, g7⟩ := o'.p.z.ws
    obtain ⟨_, _, kir, _, _, _, _, _, _, klt, klt2, _⟩ := o'.rng
    have yp : lbOu.ent.pre [S', now', bu', le', mo', T', h', ln', vn', D', c, A, E', lt', i + 1] := ⟨d', a', B', o'⟩
    have ym : muOu [S', now', bu', le', mo', T', h', ln', vn', D', c, A, E', lt', i + 1] < muOu [S, now, bu, le, mo, T, h, ln, vn, D, c, A, E, lt, i] := by show (((dc A).length : Int) + 1000 - (i + 1)).toNat < (((dc A).length : Int) + 1000 - i).toNat; omega
    have q := hφ [S', now', bu', le', mo', T', h', ln', vn', D', c, A, E', lt', i + 1] ⟨rfl, g1, g2, g3, g4, rfl, g5, g6, g7, rfl, hc, rfl, rfl, i64w (by omega) (by omega), w1, trivial⟩ yp ym
    refine ⟨yp, ym, ?_, q⟩
    have h1 := q.2.1
    replace h1 : ((dc (φ 10 [S', now', bu', le', mo', T', h', ln', vn', D', c, A, E', lt', i + 1])).length : Int) = c := h1
    have h2 := o.p.lE
    omega
  by_cases hi : i < ((dc A).length : Int)
  · obtain ⟨r, er, hr, _, _⟩ := row_at o.rA rir.1 hi
    obtain ⟨ak, r1, rfl, hak, hr⟩ := fits_cons hr
    obtain ⟨ai, r2, rfl, hai, hr⟩ := fits_cons hr
    obtain ⟨ad, r3, rfl, had, hr⟩ := fits_cons hr
    obtain ⟨an, r4, rfl, han, hr⟩ := fits_cons hr
    obtain rfl := fits_nil hr
    simp only [norm_i] at hak hai had han
    have rak := u8r hak
    have t8 : ak.tmod 8 = ak % 8 := Int.tmod_eq_emod_of_nonneg rak.1
    obtain ⟨y, ey, wy, yi, ry⟩ := e25v (a := ai) rc.1
    obtain ⟨n, en, wn, yn, rn⟩ := e25v (a := an) (b := 40) (by decide)
    obtain ⟨t, et, wt, yt, rt⟩ := e25v (a := ad) (b := 600) (by decide)
    obtain ⟨x, ex, wx, w1n, hEr⟩ : ∃ x, now + 1 + t = x ∧ IntKind.i64.wrap x = x ∧ IntKind.i64.wrap (1 + n) = 1 + n ∧ (dc E).length = c.toNat := ⟨_, rfl, o.xw rt, i64w (by omega) (by omega), by have := o.p.lE; omega⟩
    simp only [hSS, ewA, ewL, preC, binI, dvI, shI, cmpB, env, bi, List.headD, List.tail, List.map, Nat.reduceAdd, ewR, ewB, ewM, if_true, if_false, implies_true, forall_const, ne_eq, reduceCtorEq, Int.reduceEq, Int.reduceLT, Int.reduceLE, Int.reduceToNat, Int.reduceAdd, Int.reduceSub, Int.reduceMul, Int.reduceNeg, Int.reduceBEq, Nat.reduceLT, Nat.reduceEqDiff, wA, er, f1, hi, t8, l0, l1, l40, l600, hak, hai, had, han, ey, en, et, wy, wn, wt, b2, w2, ex, wx, w1n] at hd3 hd4 hd5 hd6 hd7 hd8 hd9 hd10 hd11 hd12 hd13 hd14 hd15 hd16 hd17 hd18 hd19 hd20 hd21 hd22 hd23 hd24 hd25 hd26 hd27 hd28 hd29 hd30 hd31 hd32 hd33 hd34 hd35
    have k19 := o.cancel hi ry ⟨hd3, hd4, hd5, hd6, hd7, hd8, hd9, hd10, hd11, hd12, hd13, trivial⟩
    have k24 := o.ticks (n := 1 + n) (by omega) (Or.inl hi) ⟨hd14, hd15, hd16, hd17, hd18, hd19, hd20, hd21, hd22, hd23, hd24, trivial⟩
    have k13 := o.touch hi ry ex.symm rt ⟨hd25, hd26, hd27, hd28, hd29, hd30, hd31, hd32, hd33, hd34, hd35, trivial⟩
    have y19 : z19.pre [S, now, bu, le, mo, T, h, ln, vn, D, y] := o.p.z.pz
    have y13 : z13.pre [S, now, bu, le, mo, T, h, ln, vn, D, y, x] := o.p.z.pz
    have hyE : y < ((dc E).length : Int) := by omega
    have c0 := rowsC o.p.rE (i := y.toNat) (j := 0) (by omega) rfl
    have cq := o.p.eE y.toNat (by omega)
    have hs0 : List.set (dc E) y.toNat (splR (List.getD (dc E) y.toNat []) 0 [0]) = setC (dc E) y.toNat 0 [0] := rfl
    have hsx : List.set (dc E) y.toNat (splR (List.getD (dc E) y.toNat []) 0 [x]) = setC (dc E) y.toNat 0 [x] := rfl
    have e35 : v35 = 0 := k13.1
    have e13 : b2i (v13 == 0) = b2i (decide (0 < d y.toNat)) := by
      have h0 := o.p.z.dr (i := y.toNat) (by omega)
      rw [k19.1]
      by_cases h : d y.toNat = 0
      · rw [if_pos h, h]; rfl
      · rw [if_neg h, decide_eq_true (show 0 < d y.toNat by omega)]; rfl
    have wE : IntKind.i64.wrap (((dc E).length : Nat) : Int) = (((dc E).length : Nat) : Int) := i64w (by omega) (by omega)
    rw [cq] at c0
    by_cases h47 : ak % 8 = 4 ∨ ak % 8 = 7
    · obtain ⟨q1, q2, lE', q4⟩ := fin v3 v4 v5 v6 v7 v8 v9 v10 v11 v12 (cd (setC (dc E) y.toNat 0 [0])) lt ⟨_, _, _, k19.2⟩
      rcases h47 with hk | hk
      all_goals
        refine ⟨?_, ?_⟩
        · simp (disch := omega) only [ob_Ou, q_Ou_0, q_Ou_1, q_Ou_2, q_Ou_3, q_Ou_4, q_Ou_5, q_Ou_6, q_Ou_7, q_Ou_8, q_Ou_9, q_Ou_10, q_Ou_11, q_Ou_12, q_Ou_13, q_Ou_14, q_Ou_15, q_Ou_16, q_Ou_17, q_Ou_18, q_Ou_19, q_Ou_20, q_Ou_21, q_Ou_22, q_Ou_23, q_Ou_24, q_Ou_25, q_Ou_26, q_Ou_27, q_Ou_28, q_Ou_29, q_Ou_30, q_Ou_31, q_Ou_32, ewA, ewL, preC, binI, dvI, shI, cmpB, env, bi, List.headD, List.tail, List.map, Nat.reduceAdd, ewR, ewB, ewM, if_true, if_false, implies_true, forall_const, ne_eq, reduceCtorEq, Int.reduceEq, Int.reduceLT, Int.reduceLE, Int.reduceToNat, Int.reduceAdd, Int.reduceSub, Int.reduceMul, Int.reduceNeg, Int.reduceBEq, Nat.reduceLT, Nat.reduceEqDiff, hSS, wA, er, f1, hi, t8, l0, l1, l40, l600, l1000, hak, hai, had, han, ey, en, et, wy, wn, wt, b1, b2, w2, ex, wx, w1n, w1, gC_def, c0, cq, hs0, hsx, hyE, ry.1, Int.add_zero, hk, yi, yn, yt, y15, y16, y19, y13, k24.1, e13, e35, wE, lE']
          exact ⟨rir.1, q1, q2⟩
        · simp (disch := omega) only [es_Ou, q_Ou_0, q_Ou_1, q_Ou_2, q_Ou_3, q_Ou_4, q_Ou_5, q_Ou_6, q_Ou_7, q_Ou_8, q_Ou_9, q_Ou_10, q_Ou_11, q_Ou_12, q_Ou_13, q_Ou_14, q_Ou_15, q_Ou_16, q_Ou_17, q_Ou_18, q_Ou_19, q_Ou_20, q_Ou_21, q_Ou_22, q_Ou_23, q_Ou_24, q_Ou_25, q_Ou_26, q_Ou_27, q_Ou_28, q_Ou_29, q_Ou_30, q_Ou_31, q_Ou_32, ewA, ewL, preC, binI, dvI, shI, cmpB, env, bi, List.headD, List.tail, List.map, Nat.reduceAdd, ewR, ewB, ewM, if_true, if_false, implies_true, forall_const, ne_eq, reduceCtorEq, Int.reduceEq, Int.reduceLT, Int.reduceLE, Int.reduceToNat, Int.reduceAdd, Int.reduceSub, Int.reduceMul, Int.reduceNeg, Int.reduceBEq, Nat.reduceLT, Nat.reduceEqDiff, hSS, wA, er, f1, hi, t8, l0, l1, l40, l600, l1000, hak, hai, had, han, ey, en, et, wy, wn, wt, b1, b2, w2, ex, wx, w1n, w1, gC_def, c0, cq, hs0, hsx, hyE, ry.1, Int.add_zero, hk]
          exact q4
    · by_cases h56 : ak % 8 = 5 ∨ ak % 8 = 6
      · have l24 : (dc v24).length = (dc E).length := by
          obtain ⟨_, _, _, o'⟩ := k24.2
          have h1 := o'.p.lE
          have h2 := o.p.lE
          omega
        obtain ⟨q1, q2, lE', q4⟩ := fin v14 v15 v16 v17 v18 v19 v20 v21 v22 v23 v24 lt k24.2
        rcases h56 with hk | hk
        all_goals
          refine ⟨?_, ?_⟩
          · simp (disch := omega) only [ob_Ou, q_Ou_0, q_Ou_1, q_Ou_2, q_Ou_3, q_Ou_4, q_Ou_5, q_Ou_6, q_Ou_7, q_Ou_8, q_Ou_9, q_Ou_10, q_Ou_11, q_Ou_12, q_Ou_13, q_Ou_14, q_Ou_15, q_Ou_16, q_Ou_17, q_Ou_18, q_Ou_19, q_Ou_20, q_Ou_21, q_Ou_22, q_Ou_23, q_Ou_24, q_Ou_25, q_Ou_26, q_Ou_27, q_Ou_28, q_Ou_29, q_Ou_30, q_Ou_31, q_Ou_32, ewA, ewL, preC, binI, dvI, shI, cmpB, env, bi, List.headD, List.tail, List.map, Nat.reduceAdd, ewR, ewB, ewM, if_true, if_false, implies_true, forall_const, ne_eq, reduceCtorEq, Int.reduceEq, Int.reduceLT, Int.reduceLE, Int.reduceToNat, Int.reduceAdd, Int.reduceSub, Int.reduceMul, Int.reduceNeg, Int.reduceBEq, Nat.reduceLT, Nat.reduceEqDiff, hSS, wA, er, f1, hi, t8, l0, l1, l40, l600, l1000, hak, hai, had, han, ey, en, et, wy, wn, wt, b1, b2, w2, ex, wx, w1n, w1, gC_def, c0, cq, hs0, hsx, hyE, ry.1, Int.add_zero, hk, yi, yn, yt, y15, y16, y19, y13, k24.1, e13, e35, wE, lE', l24]
            exact ⟨rir.1, q1, q2⟩
          · simp (disch := omega) only [es_Ou, q_Ou_0, q_Ou_1, q_Ou_2, q_Ou_3, q_Ou_4, q_Ou_5, q_Ou_6, q_Ou_7, q_Ou_8, q_Ou_9, q_Ou_10, q_Ou_11, q_Ou_12, q_Ou_13, q_Ou_14, q_Ou_15, q_Ou_16, q_Ou_17, q_Ou_18, q_Ou_19, q_Ou_20, q_Ou_21, q_Ou_22, q_Ou_23, q_Ou_24, q_Ou_25, q_Ou_26, q_Ou_27, q_Ou_28, q_Ou_29, q_Ou_30, q_Ou_31, q_Ou_32, ewA, ewL, preC, binI, dvI, shI, cmpB, env, bi, List.headD, List.tail, List.map, Nat.reduceAdd, ewR, ewB, ewM, if_true, if_false, implies_true, forall_const, ne_eq, reduceCtorEq, Int.reduceEq, Int.reduceLT, Int.reduceLE, Int.reduceToNat, Int.reduceAdd, Int.reduceSub, Int.reduceMul, Int.reduceNeg, Int.reduceBEq, Nat.reduceLT, Nat.reduceEqDiff, hSS, wA, er, f1, hi, t8, l0, l1, l40, l600, l1000, hak, hai, had, han, ey, en, et, wy, wn, wt, b1, b2, w2, ex, wx, w1n, w1, gC_def, c0, cq, hs0, hsx, hyE, ry.1, Int.add_zero, hk]
            exact q4
      · have k4 : ¬ ak % 8 = 4 := fun hh => h47 (Or.inl hh)
        have k7 : ¬ ak % 8 = 7 := fun hh => h47 (Or.inr hh)
        have k5 : ¬ ak % 8 = 5 := fun hh => h56 (Or.inl hh)
        have k6 : ¬ ak % 8 = 6 := fun hh => h56 (Or.inr hh)
        have el : (if 0 < d y.toNat ∧ d y.toNat < x then lt + 1 else lt) = lt + if 0 < d y.toNat ∧ d y.toNat < x then 1 else 0 := by split <;> omega
        have kk := k13.2
        rw [el] at kk
        obtain ⟨q1, q2, lE', q4⟩ := fin v25 v26 v27 v28 v29 v30 v31 v32 v33 v34 (cd (setC (dc E) y.toNat 0 [x])) (lt + if 0 < d y.toNat ∧ d y.toNat < x then 1 else 0) kk
        refine ⟨?_, ?_⟩
        · simp (disch := omega) only [ob_Ou, q_Ou_0, q_Ou_1, q_Ou_2, q_Ou_3, q_Ou_4, q_Ou_5, q_Ou_6, q_Ou_7, q_Ou_8, q_Ou_9, q_Ou_10, q_Ou_11, q_Ou_12, q_Ou_13, q_Ou_14, q_Ou_15, q_Ou_16, q_Ou_17, q_Ou_18, q_Ou_19, q_Ou_20, q_Ou_21, q_Ou_22, q_Ou_23, q_Ou_24, q_Ou_25, q_Ou_26, q_Ou_27, q_Ou_28, q_Ou_29, q_Ou_30, q_Ou_31, q_Ou_32, ewA, ewL, preC, binI, dvI, shI, cmpB, env, bi, List.headD, List.tail, List.map, Nat.reduceAdd, ewR, ewB, ewM, if_true, if_false, implies_true, forall_const, ne_eq, reduceCtorEq, Int.reduceEq, Int.reduceLT, Int.reduceLE, Int.reduceToNat, Int.reduceAdd, Int.reduceSub, Int.reduceMul, Int.reduceNeg, Int.reduceBEq, Nat.reduceLT, Nat.reduceEqDiff, hSS, wA, er, f1, hi, t8, l0, l1, l40, l600, l1000, hak, hai, had, han, ey, en, et, wy, wn, wt, b1, b2, w2, ex, wx, w1n, w1, gC_def, c0, cq, hs0, hsx, hyE, ry.1, Int.add_zero, k4, k5, k6, k7, yi, yn, yt, y15, y16, y19, y13, k24.1, e13, e35, wE, lE']
          exact ⟨rir.1, q1, q2⟩
        · simp (disch := omega) only [es_Ou, q_Ou_0, q_Ou_1, q_Ou_2, q_Ou_3, q_Ou_4, q_Ou_5, q_Ou_6, q_Ou_7, q_Ou_8, q_Ou_9, q_Ou_10, q_Ou_11, q_Ou_12, q_Ou_13, q_Ou_14, q_Ou_15, q_Ou_16, q_Ou_17, q_Ou_18, q_Ou_19, q_Ou_20, q_Ou_21, q_Ou_22, q_Ou_23, q_Ou_24, q_Ou_25, q_Ou_26, q_Ou_27, q_Ou_28, q_Ou_29, q_Ou_30, q_Ou_31, q_Ou_32, ewA, ewL, preC, binI, dvI, shI, cmpB, env, bi, List.headD, List.tail, List.map, Nat.reduceAdd, ewR, ewB, ewM, if_true, if_false, implies_true, forall_const, ne_eq, reduceCtorEq, Int.reduceEq, Int.reduceLT, Int.reduceLE, Int.reduceToNat, Int.reduceAdd, Int.reduceSub, Int.reduceMul, Int.reduceNeg, Int.reduceBEq, Nat.reduceLT, Nat.reduceEqDiff, hSS, wA, er, f1, hi, t8, l0, l1, l40, l600, l1000, hak, hai, had, han, ey, en, et, wy, wn, wt, b1, b2, w2, ex, wx, w1n, w1, gC_def, c0, cq, hs0, hsx, hyE, ry.1, Int.add_zero, k4, k5, k6, k7]
          exact q4
  · by_cases hl : 0 < ln
    · have h2 : i < ((dc A).length : Int) + 1000 := by
        have h3 := o.lv
        have h4 := o.p.z.ln
        omega
      have y0 : e25.pre [0, c] := ⟨by show (0 : Int) < c; omega, by show c ≤ _; omega⟩
      have y40 : e25.pre [0, 40] := ⟨by show (0 : Int) < 40; decide, by show (40 : Int) ≤ _; decide⟩
      have y600 : e25.pre [0, 600] := ⟨by show (0 : Int) < 600; decide, by show (600 : Int) ≤ _; decide⟩
      have t58 : (5 : Int).tmod 8 = 5 := rfl
      simp only [hSS, ewA, ewL, preC, binI, dvI, shI, cmpB, env, bi, List.headD, List.tail, List.map, Nat.reduceAdd, ewR, ewB, ewM, if_true, if_false, implies_true, forall_const, ne_eq, reduceCtorEq, Int.reduceEq, Int.reduceLT, Int.reduceLE, Int.reduceToNat, Int.reduceAdd, Int.reduceSub, Int.reduceMul, Int.reduceNeg, Int.reduceBEq, Nat.reduceLT, Nat.reduceEqDiff, wA, f1, hi, l0, l1, l40, l600, l5, Int.zero_emod, Int.add_zero] at hd14 hd15 hd16 hd17 hd18 hd19 hd20 hd21 hd22 hd23 hd24
      have k24 := o.ticks (n := 1) (by decide) (Or.inr ⟨rfl, by omega, h2⟩) ⟨hd14, hd15, hd16, hd17, hd18, hd19, hd20, hd21, hd22, hd23, hd24, trivial⟩
      have l24 : (dc v24).length = (dc E).length := by
        obtain ⟨_, _, _, o'⟩ := k24.2
        have h1 := o'.p.lE
        have h2 := o.p.lE
        omega
      have wE : IntKind.i64.wrap (((dc E).length : Nat) : Int) = (((dc E).length : Nat) : Int) := by
        have h2 := o.p.lE
        exact i64w (by omega) (by omega)
      obtain ⟨q1, q2, lE', q4⟩ := fin v14 v15 v16 v17 v18 v19 v20 v21 v22 v23 v24 lt k24.2
      refine ⟨?_, ?_⟩
      · simp (disch := omega) only [ob_Ou, q_Ou_0, q_Ou_1, q_Ou_2, q_Ou_3, q_Ou_4, q_Ou_5, q_Ou_6, q_Ou_7, q_Ou_8, q_Ou_9, q_Ou_10, q_Ou_11, q_Ou_12, q_Ou_13, q_Ou_14, q_Ou_15, q_Ou_16, q_Ou_17, q_Ou_18, q_Ou_19, q_Ou_20, q_Ou_21, q_Ou_22, q_Ou_23, q_Ou_24, q_Ou_25, q_Ou_26, q_Ou_27, q_Ou_28, q_Ou_29, q_Ou_30, q_Ou_31, q_Ou_32, ewA, ewL, preC, binI, dvI, shI, cmpB, env, bi, List.headD, List.tail, List.map, Nat.reduceAdd, ewR, ewB, ewM, if_true, if_false, implies_true, forall_const, ne_eq, reduceCtorEq, Int.reduceEq, Int.reduceLT, Int.reduceLE, Int.reduceToNat, Int.reduceAdd, Int.reduceSub, Int.reduceMul, Int.reduceNeg, Int.reduceBEq, Nat.reduceLT, Nat.reduceEqDiff, hSS, wA, wA1, f1, hi, hl, h2, t58, l0, l1, l5, l40, l600, l1000, b1, b2, w1, w2, Int.zero_emod, Int.add_zero, y0, y40, y600, y15, y16, k24.1, wE, lE', l24]
        exact ⟨q1, q2⟩
      · simp (disch := omega) only [es_Ou, q_Ou_0, q_Ou_1, q_Ou_2, q_Ou_3, q_Ou_4, q_Ou_5, q_Ou_6, q_Ou_7, q_Ou_8, q_Ou_9, q_Ou_10, q_Ou_11, q_Ou_12, q_Ou_13, q_Ou_14, q_Ou_15, q_Ou_16, q_Ou_17, q_Ou_18, q_Ou_19, q_Ou_20, q_Ou_21, q_Ou_22, q_Ou_23, q_Ou_24, q_Ou_25, q_Ou_26, q_Ou_27, q_Ou_28, q_Ou_29, q_Ou_30, q_Ou_31, q_Ou_32, ewA, ewL, preC, binI, dvI, shI, cmpB, env, bi, List.headD, List.tail, List.map, Nat.reduceAdd, ewR, ewB, ewM, if_true, if_false, implies_true, forall_const, ne_eq, reduceCtorEq, Int.reduceEq, Int.reduceLT, Int.reduceLE, Int.reduceToNat, Int.reduceAdd, Int.reduceSub, Int.reduceMul, Int.reduceNeg, Int.reduceBEq, Nat.reduceLT, Nat.reduceEqDiff, hSS, wA, wA1, f1, hi, hl, h2, t58, l0, l1, l5, l40, l600, l1000, b1, b2, w1, w2, Int.zero_emod, Int.add_zero]
        exact q4
    · refine ⟨?_, ?_⟩
      · simp (disch := omega) only [ob_Ou, q_Ou_0, q_Ou_1, q_Ou_2, q_Ou_3, q_Ou_4, q_Ou_5, q_Ou_6, q_Ou_7, q_Ou_8, q_Ou_9, q_Ou_10, q_Ou_11, q_Ou_12, q_Ou_13, q_Ou_14, q_Ou_15, q_Ou_16, q_Ou_17, q_Ou_18, q_Ou_19, q_Ou_20, q_Ou_21, q_Ou_22, q_Ou_23, q_Ou_24, q_Ou_25, q_Ou_26, q_Ou_27, q_Ou_28, q_Ou_29, q_Ou_30, q_Ou_31, q_Ou_32, ewA, ewL, preC, binI, dvI, shI, cmpB, env, bi, List.headD, List.tail, List.map, Nat.reduceAdd, ewR, ewB, ewM, if_true, if_false, implies_true, forall_const, ne_eq, reduceCtorEq, Int.reduceEq, Int.reduceLT, Int.reduceLE, Int.reduceToNat, Int.reduceAdd, Int.reduceSub, Int.reduceMul, Int.reduceNeg, Int.reduceBEq, Nat.reduceLT, Nat.reduceEqDiff, hSS, wA, hi, l1000, wA1, b1, hl, y15]
      · simp (disch := omega) only [es_Ou, q_Ou_0, q_Ou_1, q_Ou_2, q_Ou_3, q_Ou_4, q_Ou_5, q_Ou_6, q_Ou_7, q_Ou_8, q_Ou_9, q_Ou_10, q_Ou_11, q_Ou_12, q_Ou_13, q_Ou_14, q_Ou_15, q_Ou_16, q_Ou_17, q_Ou_18, q_Ou_19, q_Ou_20, q_Ou_21, q_Ou_22, q_Ou_23, q_Ou_24, q_Ou_25, q_Ou_26, q_Ou_27, q_Ou_28, q_Ou_29, q_Ou_30, q_Ou_31, q_Ou_32, ewA, ewL, preC, binI, dvI, shI, cmpB, env, bi, List.headD, List.tail, List.map, Nat.reduceAdd, ewR, ewB, ewM, if_true, if_false, implies_true, forall_const, ne_eq, reduceCtorEq, Int.reduceEq, Int.reduceLT, Int.reduceLE, Int.reduceToNat, Int.reduceAdd, Int.reduceSub, Int.reduceMul, Int.reduceNeg, Int.reduceBEq, Nat.reduceLT, Nat.reduceEqDiff, hSS, wA, hi, l1000, wA1, b1, hl]
        have hv := o.p.vl
        have he : 0 ≤ early c d a := by unfold early; omega
        exact ⟨⟨d, a, B, o.p.z⟩, o.p.lE, by show ln = 0; omega, by show vn ≤ lt; omega⟩

end
end Go.Proofs.Ytnockichpnaoeaa.Ew
