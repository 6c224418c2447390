/- Layer 18: the wheel's functions. -/
import Derived.Test.YtfhheeoejncfgaaHe
set_option linter.unusedVariables false
set_option linter.unusedSimpArgs false
namespace Go.Proofs.Ytfhheeoejncfgaa.Ew
open Go Go.RowKit
noncomputable section
--P Try.prog G0

def intK : List K := [.i .i64]
def lio : Sh := .lst 3 (Row.ofKs intK) true
def SW (xs : List Int) : RL := dc (env xs 0)
def TW (xs : List Int) : RL := dc (env xs 5)
/-- A wheel at rest. -/
def WX (xs : List Int) : Prop := (∃ Q, WOK (env xs 1) (env xs 2) (env xs 3) (SW xs) (TW xs) Q (env xs 2 * (255 - env xs 1 % 256))) ∧ 0 ≤ env xs 4 ∧ env xs 4 ≤ 1152921504606846976
def lenOK (xs : List Int) : Prop := 0 < lenT xs ∧ lenT xs ≤ 4096
def e18 : Ent := ⟨18, 18, [wsh], [], [0, 1], i64, fun _ xs => env xs 1, lenOK⟩
def e16 : Ent := ⟨16, 16, [wsh], [], [0, 1], i64, fun _ xs => gC (SW xs) 2048 2, fun xs => lenOK xs ∧ rowsOK k3 (SW xs) ∧ (SW xs).length = 2049⟩
def e20 : Ent := ⟨20, 20, [wsh], [], [0, 1], i64, fun _ xs => env xs 3, lenOK⟩
def e21 : Ent := ⟨21, 21, [wsh], [], [0, 1], i64, fun _ xs => env xs 4, lenOK⟩
abbrev riW (xs : List Int) : Prop := 0 ≤ env xs 6 ∧ env xs 6 < lenT xs
def fn29 (j : Nat) (xs : List Int) : Int := match j with
  | 0 => if riW xs then gC (TW xs) (idW xs) 4 else 0
  | _ => b2i (decide (riW xs) && decide (gC (TW xs) (idW xs) 4 ≠ 0))
def preR (xs : List Int) : Prop := lenOK xs ∧ rowsOK k5 (TW xs)
def e29 : Ent := ⟨29, 29, [wsh, i64], [], [0, 1], .tup [i64, bS], fn29, preR⟩
def fn30 (j : Nat) (xs : List Int) : Int := match j with
  | 0 => if riW xs ∧ env xs 1 < gC (TW xs) (idW xs) 4 then gC (TW xs) (idW xs) 0 else 0
  | 1 => if riW xs ∧ env xs 1 < gC (TW xs) (idW xs) 4 then gC (TW xs) (idW xs) 1 else 0
  | _ => if riW xs then (if env xs 1 < gC (TW xs) (idW xs) 4 then 0 else 6) else 2
def e30 : Ent := ⟨30, 30, [wsh, i64], [], [0, 1], .tup [i64, i64, i64], fn30, preR⟩
def dpW (now : Int) (p : RL × RL) (i : Nat) : RL × RL := (dropS p.1 (locI now p.2 i).toNat (gC p.2 i 2) (gC p.2 i 3), dropT p.2 i)
def ptW (now d : Int) (p : RL × RL) (i : Nat) : RL × RL := (putS p.1 (kW now d).toNat i, putT p.2 i (lvF now d) (blk (lvF now d) d % 512) d (gC p.1 (kW now d).toNat 1))
def clW (now : Int) (p : RL × RL) (i : Nat) : RL × RL := if 0 < gC p.2 i 4 then dpW now p i else p
def armW (now d : Int) (p : RL × RL) (i : Nat) : RL × RL := ptW now d (clW now p i) i
abbrev okA (xs : List Int) : Prop := riW xs ∧ env xs 1 < env xs 7 ∧ env xs 7 ≤ env xs 1 + 2147483648
def fn14 (j : Nat) (xs : List Int) : Int := match j with
  | 0 => if okA xs then cd (armW (env xs 1) (env xs 7) (SW xs, TW xs) (idW xs)).1 else env xs 0
  | 1 => env xs 1
  | 2 => env xs 2
  | 3 => if okA xs then (if 0 < gC (TW xs) (idW xs) 4 then env xs 3 else env xs 3 + 1) else env xs 3
  | 4 => env xs 4
  | 5 => if okA xs then cd (armW (env xs 1) (env xs 7) (SW xs, TW xs) (idW xs)).2 else env xs 5
  | _ => if okA xs then 0 else 2
def e14 : Ent := ⟨14, 14, [wsh, i64, i64], [wob], [], i64, fn14, WX⟩
def fn24 (j : Nat) (xs : List Int) : Int := match j with
  | 0 => if riW xs ∧ gC (TW xs) (idW xs) 4 ≠ 0 then cd (dpW (env xs 1) (SW xs, TW xs) (idW xs)).1 else env xs 0
  | 1 => env xs 1
  | 2 => env xs 2
  | 3 => if riW xs ∧ gC (TW xs) (idW xs) 4 ≠ 0 then env xs 3 - 1 else env xs 3
  | 4 => env xs 4
  | 5 => if riW xs ∧ gC (TW xs) (idW xs) 4 ≠ 0 then cd (dpW (env xs 1) (SW xs, TW xs) (idW xs)).2 else env xs 5
  | _ => if riW xs then (if gC (TW xs) (idW xs) 4 = 0 then 6 else 0) else 2
def e24 : Ent := ⟨24, 24, [wsh, i64], [wob], [], i64, fn24, WX⟩
def cF : Ctx := ⟨[e46, e47, e48, e49], []⟩

def ob_18 : E := (.app .b 46 1000000 [(.var .x 0), (.var (.i .i64) 1), (.var (.i .i64) 2), (.var (.i .i64) 3), (.var (.i .i64) 4), (.var .x 5)])
def es_18 : List E := [(.var (.i .i64) 1)]
theorem ev_18 : evE Try.prog G0 (tabOf cF.fs) (ltOf cF.ls) 40 10 e18 = some (ob_18, es_18) := by kernel_rfl

def ob_16 : E := (.and (.app .b 46 1000000 [(.var .x 0), (.var (.i .i64) 1), (.var (.i .i64) 2), (.var (.i .i64) 3), (.var (.i .i64) 4), (.var .x 5)]) (.cmp .lss (.lit (.i .i64) 2048) (.app (.i .i64) 0 0 [(.var .x 0)])))
def es_16 : List E := [(.app (.i .i64) 0 1 [(.var .x 0), (.lit (.i .i64) 2048), (.lit .x 2)])]
theorem ev_16 : evE Try.prog G0 (tabOf cF.fs) (ltOf cF.ls) 40 10 e16 = some (ob_16, es_16) := by kernel_rfl

def ob_20 : E := (.app .b 46 1000000 [(.var .x 0), (.var (.i .i64) 1), (.var (.i .i64) 2), (.var (.i .i64) 3), (.var (.i .i64) 4), (.var .x 5)])
def es_20 : List E := [(.var (.i .i64) 3)]
theorem ev_20 : evE Try.prog G0 (tabOf cF.fs) (ltOf cF.ls) 40 10 e20 = some (ob_20, es_20) := by kernel_rfl

def ob_21 : E := (.app .b 46 1000000 [(.var .x 0), (.var (.i .i64) 1), (.var (.i .i64) 2), (.var (.i .i64) 3), (.var (.i .i64) 4), (.var .x 5)])
def es_21 : List E := [(.var (.i .i64) 4)]
theorem ev_21 : evE Try.prog G0 (tabOf cF.fs) (ltOf cF.ls) 40 10 e21 = some (ob_21, es_21) := by kernel_rfl

def q_29_0 : E := (.not (.app .b 47 0 [(.var .x 0), (.var (.i .i64) 1), (.var (.i .i64) 2), (.var (.i .i64) 3), (.var (.i .i64) 4), (.var .x 5), (.var (.i .i64) 6)]))
def q_29_1 : E := (.and (.cmp .geq (.var (.i .i64) 6) (.lit (.i .i64) 0)) (.cmp .lss (.var (.i .i64) 6) (.app (.i .i64) 0 0 [(.var .x 5)])))
def q_29_2 : E := (.or q_29_0 (.cmp .eql (.app (.i .i64) 0 1 [(.var .x 5), (.var (.i .i64) 6), (.lit .x 4)]) (.lit (.i .i64) 0)))
def ob_29 : E := (.and (.and (.app .b 46 1000000 [(.var .x 0), (.var (.i .i64) 1), (.var (.i .i64) 2), (.var (.i .i64) 3), (.var (.i .i64) 4), (.var .x 5)]) (.and (.app .b 47 1000000 [(.var .x 0), (.var (.i .i64) 1), (.var (.i .i64) 2), (.var (.i .i64) 3), (.var (.i .i64) 4), (.var .x 5), (.var (.i .i64) 6)]) (.or q_29_0 q_29_1))) (.or q_29_2 q_29_1))
def es_29 : List E := [(.ite q_29_2 (.lit (.i .i64) 0) (.app (.i .i64) 0 1 [(.var .x 5), (.var (.i .i64) 6), (.lit .x 4)])), (.not q_29_2)]
theorem ev_29 : evE Try.prog G0 (tabOf cF.fs) (ltOf cF.ls) 40 10 e29 = some (ob_29, es_29) := by kernel_rfl

def q_30_0 : E := (.app .b 47 0 [(.var .x 0), (.var (.i .i64) 1), (.var (.i .i64) 2), (.var (.i .i64) 3), (.var (.i .i64) 4), (.var .x 5), (.var (.i .i64) 6)])
def q_30_1 : E := (.not q_30_0)
def q_30_2 : E := (.and (.cmp .geq (.var (.i .i64) 6) (.lit (.i .i64) 0)) (.cmp .lss (.var (.i .i64) 6) (.app (.i .i64) 0 0 [(.var .x 5)])))
def q_30_3 : E := (.cmp .leq (.app (.i .i64) 0 1 [(.var .x 5), (.var (.i .i64) 6), (.lit .x 4)]) (.var (.i .i64) 1))
def q_30_4 : E := (.or q_30_1 q_30_3)
def ob_30 : E := (.and (.and (.app .b 46 1000000 [(.var .x 0), (.var (.i .i64) 1), (.var (.i .i64) 2), (.var (.i .i64) 3), (.var (.i .i64) 4), (.var .x 5)]) (.and (.app .b 47 1000000 [(.var .x 0), (.var (.i .i64) 1), (.var (.i .i64) 2), (.var (.i .i64) 3), (.var (.i .i64) 4), (.var .x 5), (.var (.i .i64) 6)]) (.or q_30_1 q_30_2))) (.or (.not (.and q_30_0 (.not q_30_3))) q_30_2))
def es_30 : List E := [(.ite q_30_4 (.lit (.i .i64) 0) (.app (.i .i64) 0 1 [(.var .x 5), (.var (.i .i64) 6), (.lit .x 0)])), (.ite q_30_4 (.lit (.i .i64) 0) (.app (.i .i64) 0 1 [(.var .x 5), (.var (.i .i64) 6), (.lit .x 1)])), (.ite q_30_4 (.ite q_30_1 (.lit (.i .i64) 2) (.lit (.i .i64) 6)) (.lit (.i .i64) 0))]
theorem ev_30 : evE Try.prog G0 (tabOf cF.fs) (ltOf cF.ls) 40 10 e30 = some (ob_30, es_30) := by kernel_rfl

def q_14_0 : E := (.or (.or (.not (.app .b 47 0 [(.var .x 0), (.var (.i .i64) 1), (.var (.i .i64) 2), (.var (.i .i64) 3), (.var (.i .i64) 4), (.var .x 5), (.var (.i .i64) 6)])) (.cmp .leq (.var (.i .i64) 7) (.var (.i .i64) 1))) (.cmp .gtr (.var (.i .i64) 7) (.bin .add .i64 (.var (.i .i64) 1) (.lit (.i .i64) 2147483648))))
def q_14_1 : E := (.cmp .gtr (.app (.i .i64) 0 1 [(.var .x 5), (.var (.i .i64) 6), (.lit .x 4)]) (.lit (.i .i64) 0))
def q_14_2 : E := (.not q_14_1)
def q_14_3 : E := (.ite q_14_1 (.app .x 48 0 [(.var .x 0), (.var (.i .i64) 1), (.var (.i .i64) 2), (.var (.i .i64) 3), (.var (.i .i64) 4), (.var .x 5), (.var (.i .i64) 6)]) (.var .x 0))
def q_14_4 : E := (.ite q_14_1 (.app (.i .i64) 48 1 [(.var .x 0), (.var (.i .i64) 1), (.var (.i .i64) 2), (.var (.i .i64) 3), (.var (.i .i64) 4), (.var .x 5), (.var (.i .i64) 6)]) (.var (.i .i64) 1))
def q_14_5 : E := (.ite q_14_1 (.app (.i .i64) 48 2 [(.var .x 0), (.var (.i .i64) 1), (.var (.i .i64) 2), (.var (.i .i64) 3), (.var (.i .i64) 4), (.var .x 5), (.var (.i .i64) 6)]) (.var (.i .i64) 2))
def q_14_6 : E := (.ite q_14_1 (.app (.i .i64) 48 3 [(.var .x 0), (.var (.i .i64) 1), (.var (.i .i64) 2), (.var (.i .i64) 3), (.var (.i .i64) 4), (.var .x 5), (.var (.i .i64) 6)]) (.var (.i .i64) 3))
def q_14_7 : E := (.ite q_14_1 (.app (.i .i64) 48 4 [(.var .x 0), (.var (.i .i64) 1), (.var (.i .i64) 2), (.var (.i .i64) 3), (.var (.i .i64) 4), (.var .x 5), (.var (.i .i64) 6)]) (.var (.i .i64) 4))
def q_14_8 : E := (.ite q_14_1 (.app .x 48 5 [(.var .x 0), (.var (.i .i64) 1), (.var (.i .i64) 2), (.var (.i .i64) 3), (.var (.i .i64) 4), (.var .x 5), (.var (.i .i64) 6)]) (.var .x 5))
def ob_14 : E := (.and (.and (.and (.app .b 46 1000000 [(.var .x 0), (.var (.i .i64) 1), (.var (.i .i64) 2), (.var (.i .i64) 3), (.var (.i .i64) 4), (.var .x 5)]) (.app .b 47 1000000 [(.var .x 0), (.var (.i .i64) 1), (.var (.i .i64) 2), (.var (.i .i64) 3), (.var (.i .i64) 4), (.var .x 5), (.var (.i .i64) 6)])) (.or q_14_0 (.and (.and (.and (.cmp .geq (.var (.i .i64) 6) (.lit (.i .i64) 0)) (.cmp .lss (.var (.i .i64) 6) (.app (.i .i64) 0 0 [(.var .x 5)]))) (.or q_14_2 (.app .b 48 1000000 [(.var .x 0), (.var (.i .i64) 1), (.var (.i .i64) 2), (.var (.i .i64) 3), (.var (.i .i64) 4), (.var .x 5), (.var (.i .i64) 6)]))) (.and (.ite q_14_1 q_14_1 q_14_2) (.app .b 49 1000000 [q_14_3, q_14_4, q_14_5, q_14_6, q_14_7, q_14_8, (.var (.i .i64) 6), (.var (.i .i64) 7)]))))) (.ite q_14_0 q_14_0 (.not q_14_0)))
def es_14 : List E := [(.ite q_14_0 (.var .x 0) (.app .x 49 0 [q_14_3, q_14_4, q_14_5, q_14_6, q_14_7, q_14_8, (.var (.i .i64) 6), (.var (.i .i64) 7)])), (.ite q_14_0 (.var (.i .i64) 1) (.app (.i .i64) 49 1 [q_14_3, q_14_4, q_14_5, q_14_6, q_14_7, q_14_8, (.var (.i .i64) 6), (.var (.i .i64) 7)])), (.ite q_14_0 (.var (.i .i64) 2) (.app (.i .i64) 49 2 [q_14_3, q_14_4, q_14_5, q_14_6, q_14_7, q_14_8, (.var (.i .i64) 6), (.var (.i .i64) 7)])), (.ite q_14_0 (.var (.i .i64) 3) (.app (.i .i64) 49 3 [q_14_3, q_14_4, q_14_5, q_14_6, q_14_7, q_14_8, (.var (.i .i64) 6), (.var (.i .i64) 7)])), (.ite q_14_0 (.var (.i .i64) 4) (.app (.i .i64) 49 4 [q_14_3, q_14_4, q_14_5, q_14_6, q_14_7, q_14_8, (.var (.i .i64) 6), (.var (.i .i64) 7)])), (.ite q_14_0 (.var .x 5) (.app .x 49 5 [q_14_3, q_14_4, q_14_5, q_14_6, q_14_7, q_14_8, (.var (.i .i64) 6), (.var (.i .i64) 7)])), (.ite q_14_0 (.lit (.i .i64) 2) (.lit (.i .i64) 0))]
theorem ev_14 : evE Try.prog G0 (tabOf cF.fs) (ltOf cF.ls) 40 10 e14 = some (ob_14, es_14) := by kernel_rfl

def q_24_0 : E := (.app .b 47 0 [(.var .x 0), (.var (.i .i64) 1), (.var (.i .i64) 2), (.var (.i .i64) 3), (.var (.i .i64) 4), (.var .x 5), (.var (.i .i64) 6)])
def q_24_1 : E := (.not q_24_0)
def q_24_2 : E := (.cmp .eql (.app (.i .i64) 0 1 [(.var .x 5), (.var (.i .i64) 6), (.lit .x 4)]) (.lit (.i .i64) 0))
def q_24_3 : E := (.or q_24_1 q_24_2)
def ob_24 : E := (.and (.and (.and (.app .b 46 1000000 [(.var .x 0), (.var (.i .i64) 1), (.var (.i .i64) 2), (.var (.i .i64) 3), (.var (.i .i64) 4), (.var .x 5)]) (.and (.app .b 47 1000000 [(.var .x 0), (.var (.i .i64) 1), (.var (.i .i64) 2), (.var (.i .i64) 3), (.var (.i .i64) 4), (.var .x 5), (.var (.i .i64) 6)]) (.or q_24_1 (.and (.cmp .geq (.var (.i .i64) 6) (.lit (.i .i64) 0)) (.cmp .lss (.var (.i .i64) 6) (.app (.i .i64) 0 0 [(.var .x 5)])))))) (.or (.not (.and q_24_0 (.not q_24_2))) (.app .b 48 1000000 [(.var .x 0), (.var (.i .i64) 1), (.var (.i .i64) 2), (.var (.i .i64) 3), (.var (.i .i64) 4), (.var .x 5), (.var (.i .i64) 6)]))) (.ite q_24_3 q_24_3 (.not q_24_3)))
def es_24 : List E := [(.ite q_24_3 (.var .x 0) (.app .x 48 0 [(.var .x 0), (.var (.i .i64) 1), (.var (.i .i64) 2), (.var (.i .i64) 3), (.var (.i .i64) 4), (.var .x 5), (.var (.i .i64) 6)])), (.ite q_24_3 (.var (.i .i64) 1) (.app (.i .i64) 48 1 [(.var .x 0), (.var (.i .i64) 1), (.var (.i .i64) 2), (.var (.i .i64) 3), (.var (.i .i64) 4), (.var .x 5), (.var (.i .i64) 6)])), (.ite q_24_3 (.var (.i .i64) 2) (.app (.i .i64) 48 2 [(.var .x 0), (.var (.i .i64) 1), (.var (.i .i64) 2), (.var (.i .i64) 3), (.var (.i .i64) 4), (.var .x 5), (.var (.i .i64) 6)])), (.ite q_24_3 (.var (.i .i64) 3) (.app (.i .i64) 48 3 [(.var .x 0), (.var (.i .i64) 1), (.var (.i .i64) 2), (.var (.i .i64) 3), (.var (.i .i64) 4), (.var .x 5), (.var (.i .i64) 6)])), (.ite q_24_3 (.var (.i .i64) 4) (.app (.i .i64) 48 4 [(.var .x 0), (.var (.i .i64) 1), (.var (.i .i64) 2), (.var (.i .i64) 3), (.var (.i .i64) 4), (.var .x 5), (.var (.i .i64) 6)])), (.ite q_24_3 (.var .x 5) (.app .x 48 5 [(.var .x 0), (.var (.i .i64) 1), (.var (.i .i64) 2), (.var (.i .i64) 3), (.var (.i .i64) 4), (.var .x 5), (.var (.i .i64) 6)])), (.ite q_24_3 (.ite q_24_1 (.lit (.i .i64) 2) (.lit (.i .i64) 6)) (.lit (.i .i64) 0))]
theorem ev_24 : evE Try.prog G0 (tabOf cF.fs) (ltOf cF.ls) 40 10 e24 = some (ob_24, es_24) := by kernel_rfl

theorem cFok : cF.OK Try.prog G0 := (((Ctx.OK.nil.addF ok49 rfl).addF ok48 rfl).addF ok47 rfl).addF ok46 rfl
theorem y46 {S now bu le mo T : Int} (h : 0 < ((dc T).length : Int) ∧ ((dc T).length : Int) ≤ 4096) : e46.pre [S, now, bu, le, mo, T] := h
theorem y47 {S now bu le mo T i : Int} (h : 0 < ((dc T).length : Int) ∧ ((dc T).length : Int) ≤ 4096) : e47.pre [S, now, bu, le, mo, T, i] := h

theorem ok18 : EntryOK Try.prog G0 e18 := cFok.entryP mixed ev_18 _ rfl _ rfl fun xs hf hp => by
  obtain ⟨l, hl, hF⟩ := ctx_P (l0 := cF.l)
  show ob_18.tt cF.l.F _ = true ∧ outsP e18.fn _ cF.l.F _ _ _ _
  rw [hl]
  have F46 := FC (k := 46) rfl (hF e46 (by rfl) (by decide))
  have hSS := F46
  obtain ⟨S, now, bu, le, mo, T, rfl⟩ := fits6 hf
  obtain ⟨h0, h1, h2, h3, h4, h5, _⟩ := hf
  simp only [norm_i, norm_x] at h1 h2 h3 h4
  refine ⟨?_, ?_, trivial⟩
  · simp (disch := omega) only [ob_18, ewA, ewL, preC, binI, dvI, shI, cmpB, env, bi, List.headD, List.tail, List.map, Nat.reduceAdd, ewB, ewM, if_true, if_false, implies_true, forall_const, ne_eq, reduceCtorEq, Int.reduceEq, Int.reduceLT, Int.reduceLE, Int.reduceToNat, Int.reduceAdd, Int.reduceSub, Int.reduceMul, Int.reduceNeg, Int.reduceBEq, Nat.reduceLT, Nat.reduceEqDiff, hSS, h1, h2, h3, h4]
    exact y46 hp
  · simp (disch := omega) only [es_18, e18, ewA, ewL, preC, binI, dvI, shI, cmpB, env, bi, List.headD, List.tail, List.map, Nat.reduceAdd, ewB, ewM, if_true, if_false, implies_true, forall_const, ne_eq, reduceCtorEq, Int.reduceEq, Int.reduceLT, Int.reduceLE, Int.reduceToNat, Int.reduceAdd, Int.reduceSub, Int.reduceMul, Int.reduceNeg, Int.reduceBEq, Nat.reduceLT, Nat.reduceEqDiff, hSS, h1, h2, h3, h4]

theorem ok20 : EntryOK Try.prog G0 e20 := cFok.entryP mixed ev_20 _ rfl _ rfl fun xs hf hp => by
  obtain ⟨l, hl, hF⟩ := ctx_P (l0 := cF.l)
  show ob_20.tt cF.l.F _ = true ∧ outsP e20.fn _ cF.l.F _ _ _ _
  rw [hl]
  have F46 := FC (k := 46) rfl (hF e46 (by rfl) (by decide))
  have hSS := F46
  obtain ⟨S, now, bu, le, mo, T, rfl⟩ := fits6 hf
  obtain ⟨h0, h1, h2, h3, h4, h5, _⟩ := hf
  simp only [norm_i, norm_x] at h1 h2 h3 h4
  refine ⟨?_, ?_, trivial⟩
  · simp (disch := omega) only [ob_20, ewA, ewL, preC, binI, dvI, shI, cmpB, env, bi, List.headD, List.tail, List.map, Nat.reduceAdd, ewB, ewM, if_true, if_false, implies_true, forall_const, ne_eq, reduceCtorEq, Int.reduceEq, Int.reduceLT, Int.reduceLE, Int.reduceToNat, Int.reduceAdd, Int.reduceSub, Int.reduceMul, Int.reduceNeg, Int.reduceBEq, Nat.reduceLT, Nat.reduceEqDiff, hSS, h1, h2, h3, h4]
    exact y46 hp
  · simp (disch := omega) only [es_20, e20, ewA, ewL, preC, binI, dvI, shI, cmpB, env, bi, List.headD, List.tail, List.map, Nat.reduceAdd, ewB, ewM, if_true, if_false, implies_true, forall_const, ne_eq, reduceCtorEq, Int.reduceEq, Int.reduceLT, Int.reduceLE, Int.reduceToNat, Int.reduceAdd, Int.reduceSub, Int.reduceMul, Int.reduceNeg, Int.reduceBEq, Nat.reduceLT, Nat.reduceEqDiff, hSS, h1, h2, h3, h4]

theorem ok21 : EntryOK Try.prog G0 e21 := cFok.entryP mixed ev_21 _ rfl _ rfl fun xs hf hp => by
  obtain ⟨l, hl, hF⟩ := ctx_P (l0 := cF.l)
  show ob_21.tt cF.l.F _ = true ∧ outsP e21.fn _ cF.l.F _ _ _ _
  rw [hl]
  have F46 := FC (k := 46) rfl (hF e46 (by rfl) (by decide))
  have hSS := F46
  obtain ⟨S, now, bu, le, mo, T, rfl⟩ := fits6 hf
  obtain ⟨h0, h1, h2, h3, h4, h5, _⟩ := hf
  simp only [norm_i, norm_x] at h1 h2 h3 h4
  refine ⟨?_, ?_, trivial⟩
  · simp (disch := omega) only [ob_21, ewA, ewL, preC, binI, dvI, shI, cmpB, env, bi, List.headD, List.tail, List.map, Nat.reduceAdd, ewB, ewM, if_true, if_false, implies_true, forall_const, ne_eq, reduceCtorEq, Int.reduceEq, Int.reduceLT, Int.reduceLE, Int.reduceToNat, Int.reduceAdd, Int.reduceSub, Int.reduceMul, Int.reduceNeg, Int.reduceBEq, Nat.reduceLT, Nat.reduceEqDiff, hSS, h1, h2, h3, h4]
    exact y46 hp
  · simp (disch := omega) only [es_21, e21, ewA, ewL, preC, binI, dvI, shI, cmpB, env, bi, List.headD, List.tail, List.map, Nat.reduceAdd, ewB, ewM, if_true, if_false, implies_true, forall_const, ne_eq, reduceCtorEq, Int.reduceEq, Int.reduceLT, Int.reduceLE, Int.reduceToNat, Int.reduceAdd, Int.reduceSub, Int.reduceMul, Int.reduceNeg, Int.reduceBEq, Nat.reduceLT, Nat.reduceEqDiff, hSS, h1, h2, h3, h4]

theorem ok16 : EntryOK Try.prog G0 e16 := cFok.entryP mixed ev_16 _ rfl _ rfl fun xs hf hp => by
  obtain ⟨l, hl, hF⟩ := ctx_P (l0 := cF.l)
  show ob_16.tt cF.l.F _ = true ∧ outsP e16.fn _ cF.l.F _ _ _ _
  rw [hl]
  have F46 := FC (k := 46) rfl (hF e46 (by rfl) (by decide))
  have hSS := F46
  obtain ⟨S, now, bu, le, mo, T, rfl⟩ := fits6 hf
  obtain ⟨h0, h1, h2, h3, h4, h5, _⟩ := hf
  simp only [norm_i, norm_x] at h1 h2 h3 h4
  obtain ⟨p1, p2, p3⟩ := hp
  simp only [SW, ewA, ewL, preC, binI, dvI, shI, cmpB, env, bi, List.headD, List.tail, List.map, Nat.reduceAdd] at p2 p3
  have c2 := rowsC p2 (i := 2048) (j := 2) (by omega) rfl
  refine ⟨?_, ?_, trivial⟩
  · simp (disch := omega) only [ob_16, ewA, ewL, preC, binI, dvI, shI, cmpB, env, bi, List.headD, List.tail, List.map, Nat.reduceAdd, ewB, ewM, if_true, if_false, implies_true, forall_const, ne_eq, reduceCtorEq, Int.reduceEq, Int.reduceLT, Int.reduceLE, Int.reduceToNat, Int.reduceAdd, Int.reduceSub, Int.reduceMul, Int.reduceNeg, Int.reduceBEq, Nat.reduceLT, Nat.reduceEqDiff, hSS, h1, h2, h3, h4, p3]
    exact ⟨y46 p1, by omega⟩
  · simp (disch := omega) only [es_16, e16, SW, ewA, ewL, preC, binI, dvI, shI, cmpB, env, bi, List.headD, List.tail, List.map, Nat.reduceAdd, ewB, ewM, if_true, if_false, implies_true, forall_const, ne_eq, reduceCtorEq, Int.reduceEq, Int.reduceLT, Int.reduceLE, Int.reduceToNat, Int.reduceAdd, Int.reduceSub, Int.reduceMul, Int.reduceNeg, Int.reduceBEq, Nat.reduceLT, Nat.reduceEqDiff, hSS, h1, h2, h3, h4, gC_def, c2]

theorem ok29 : EntryOK Try.prog G0 e29 := cFok.entryP mixed ev_29 _ rfl _ rfl fun xs hf hp => by
  obtain ⟨l, hl, hF⟩ := ctx_P (l0 := cF.l)
  show ob_29.tt cF.l.F _ = true ∧ outsP e29.fn _ cF.l.F _ _ _ _
  rw [hl]
  have F46 := FC (k := 46) rfl (hF e46 (by rfl) (by decide))
  have F47 := FC (k := 47) rfl (hF e47 (by rfl) (by decide))
  have hSS := And.intro F46 F47
  obtain ⟨S, now, bu, le, mo, T, i, rfl⟩ := fits7 hf
  obtain ⟨h0, h1, h2, h3, h4, h5, h6, _⟩ := hf
  simp only [norm_i, norm_x] at h1 h2 h3 h4 h6
  obtain ⟨p1, p2⟩ := hp
  have q1 : 0 < ((dc T).length : Int) ∧ ((dc T).length : Int) ≤ 4096 := p1
  replace p2 : rowsOK k5 (dc T) := p2
  have f47 : e47.fn 0 [S, now, bu, le, mo, T, i] = b2i (decide (0 ≤ i) && decide (i < ((dc T).length : Int))) := rfl
  by_cases hr : 0 ≤ i ∧ i < ((dc T).length : Int)
  · have c4 := rowsC p2 (i := i.toNat) (j := 4) (by omega) rfl
    refine ⟨?_, ?_, ?_, trivial⟩
    all_goals simp (disch := omega) only [ob_29, q_29_0, q_29_1, q_29_2, es_29, e29, fn29, riW, lenT, TW, idW, ewA, ewL, preC, binI, dvI, shI, cmpB, env, bi, List.headD, List.tail, List.map, Nat.reduceAdd, ewB, ewM, if_true, if_false, implies_true, forall_const, ne_eq, reduceCtorEq, Int.reduceEq, Int.reduceLT, Int.reduceLE, Int.reduceToNat, Int.reduceAdd, Int.reduceSub, Int.reduceMul, Int.reduceNeg, Int.reduceBEq, Nat.reduceLT, Nat.reduceEqDiff, hSS, h1, h2, h3, h4, h6, y46 q1, y47 q1, f47, gC_def, c4, hr]
    · by_cases hz : gC (dc T) i.toNat 4 = 0 <;> simp [hz]
    · cases hz : (gC (dc T) i.toNat 4 == 0) <;> simp [bne, beq_iff_eq] at hz <;> simp [hz]
  · have hr' : (0 ≤ i → ((dc T).length : Int) ≤ i) := by omega
    refine ⟨?_, ?_, ?_, trivial⟩
    all_goals simp (disch := omega) only [ob_29, q_29_0, q_29_1, q_29_2, es_29, e29, fn29, riW, lenT, TW, idW, ewA, ewL, preC, binI, dvI, shI, cmpB, env, bi, List.headD, List.tail, List.map, Nat.reduceAdd, ewB, ewM, if_true, if_false, implies_true, forall_const, ne_eq, reduceCtorEq, Int.reduceEq, Int.reduceLT, Int.reduceLE, Int.reduceToNat, Int.reduceAdd, Int.reduceSub, Int.reduceMul, Int.reduceNeg, Int.reduceBEq, Nat.reduceLT, Nat.reduceEqDiff, hSS, h1, h2, h3, h4, h6, y46 q1, y47 q1, f47, gC_def, hr]
    have hb : (decide (0 ≤ i) && decide (i < ((dc T).length : Int))) = false := by simp; omega
    simp [hb]

theorem ok30 : EntryOK Try.prog G0 e30 := cFok.entryP mixed ev_30 _ rfl _ rfl fun xs hf hp => by
  obtain ⟨l, hl, hF⟩ := ctx_P (l0 := cF.l)
  show ob_30.tt cF.l.F _ = true ∧ outsP e30.fn _ cF.l.F _ _ _ _
  rw [hl]
  have F46 := FC (k := 46) rfl (hF e46 (by rfl) (by decide))
  have F47 := FC (k := 47) rfl (hF e47 (by rfl) (by decide))
  have hSS := And.intro F46 F47
  obtain ⟨S, now, bu, le, mo, T, i, rfl⟩ := fits7 hf
  obtain ⟨h0, h1, h2, h3, h4, h5, h6, _⟩ := hf
  simp only [norm_i, norm_x] at h1 h2 h3 h4 h6
  obtain ⟨p1, p2⟩ := hp
  have q1 : 0 < ((dc T).length : Int) ∧ ((dc T).length : Int) ≤ 4096 := p1
  replace p2 : rowsOK k5 (dc T) := p2
  have f47 : e47.fn 0 [S, now, bu, le, mo, T, i] = b2i (decide (0 ≤ i) && decide (i < ((dc T).length : Int))) := rfl
  by_cases hr : 0 ≤ i ∧ i < ((dc T).length : Int)
  · have c0 := rowsC p2 (i := i.toNat) (j := 0) (by omega) rfl
    have c1 := rowsC p2 (i := i.toNat) (j := 1) (by omega) rfl
    have c4 := rowsC p2 (i := i.toNat) (j := 4) (by omega) rfl
    by_cases hd : now < gC (dc T) i.toNat 4 <;> refine ⟨?_, ?_, ?_, ?_, trivial⟩
    all_goals simp (disch := omega) only [ob_30, q_30_0, q_30_1, q_30_2, q_30_3, q_30_4, es_30, e30, fn30, riW, lenT, TW, idW, ewA, ewL, preC, binI, dvI, shI, cmpB, env, bi, List.headD, List.tail, List.map, Nat.reduceAdd, ewB, ewM, if_true, if_false, implies_true, forall_const, ne_eq, reduceCtorEq, Int.reduceEq, Int.reduceLT, Int.reduceLE, Int.reduceToNat, Int.reduceAdd, Int.reduceSub, Int.reduceMul, Int.reduceNeg, Int.reduceBEq, Nat.reduceLT, Nat.reduceEqDiff, hSS, h1, h2, h3, h4, h6, y46 q1, y47 q1, f47, gC_def, c0, c1, c4, hr, hd]
    all_goals (first | rw [if_neg (by omega)] | rw [if_pos (by omega)])
  · refine ⟨?_, ?_, ?_, ?_, trivial⟩
    all_goals simp (disch := omega) only [ob_30, q_30_0, q_30_1, q_30_2, q_30_3, q_30_4, es_30, e30, fn30, riW, lenT, TW, idW, ewA, ewL, preC, binI, dvI, shI, cmpB, env, bi, List.headD, List.tail, List.map, Nat.reduceAdd, ewB, ewM, if_true, if_false, implies_true, forall_const, ne_eq, reduceCtorEq, Int.reduceEq, Int.reduceLT, Int.reduceLE, Int.reduceToNat, Int.reduceAdd, Int.reduceSub, Int.reduceMul, Int.reduceNeg, Int.reduceBEq, Nat.reduceLT, Nat.reduceEqDiff, hSS, h1, h2, h3, h4, h6, y46 q1, y47 q1, f47, gC_def, hr]
    all_goals rw [if_pos (by omega)]

theorem wl_of {S now bu le T : Int} {Q : Nat → List Nat} {w : Int} (h : WOK now bu le (dc S) (dc T) Q w) : WL S T le Q :=
  ⟨h.rS, h.rT, ⟨h.ct.1, h.ct.2.1⟩, h.lk, h.le_rng⟩
theorem y48 {S now bu le mo T i w : Int} {Q : Nat → List Nat} (h : WOK now bu le (dc S) (dc T) Q w) (hi : 0 ≤ i ∧ i < ((dc T).length : Int)) (hd : 0 < gC (dc T) i.toNat 4) : e48.pre [S, now, bu, le, mo, T, i] :=
  ⟨Q, wl_of h, hi.1, hi.2, h.of (by show i.toNat < _; omega), h.inn i.toNat (by omega) hd⟩
theorem y49 {S now bu le mo T i d w : Int} {Q : Nat → List Nat} (h : WOK now bu le (dc S) (dc T) Q w) (hi : 0 ≤ i ∧ i < ((dc T).length : Int)) (hz : gC (dc T) i.toNat 4 = 0) (hd : 0 ≤ d ∧ d ≤ 1101659111424) : e49.pre [S, now, bu, le, mo, T, i, d] :=
  ⟨Q, wl_of h, hi.1, hi.2, fun m hm => by
    have e : 0 < gC (dc T) i.toNat 4 := (h.out m _ hm).1
    omega, h.tm, hd⟩
theorem f47 {S now bu le mo T i : Int} : e47.fn 0 [S, now, bu, le, mo, T, i] = b2i (decide (0 ≤ i) && decide (i < ((dc T).length : Int))) := rfl
theorem f48_0 {S now bu le mo T i : Int} : e48.fn 0 [S, now, bu, le, mo, T, i] = cd (dpW now (dc S, dc T) i.toNat).1 := rfl
theorem f48_1 {S now bu le mo T i : Int} : e48.fn 1 [S, now, bu, le, mo, T, i] = now := rfl
theorem f48_2 {S now bu le mo T i : Int} : e48.fn 2 [S, now, bu, le, mo, T, i] = bu := rfl
theorem f48_3 {S now bu le mo T i : Int} : e48.fn 3 [S, now, bu, le, mo, T, i] = le - 1 := rfl
theorem f48_4 {S now bu le mo T i : Int} : e48.fn 4 [S, now, bu, le, mo, T, i] = mo := rfl
theorem f48_5 {S now bu le mo T i : Int} : e48.fn 5 [S, now, bu, le, mo, T, i] = cd (dpW now (dc S, dc T) i.toNat).2 := rfl
theorem f49_0 {S now bu le mo T i d : Int} : e49.fn 0 [S, now, bu, le, mo, T, i, d] = cd (ptW now d (dc S, dc T) i.toNat).1 := rfl
theorem f49_1 {S now bu le mo T i d : Int} : e49.fn 1 [S, now, bu, le, mo, T, i, d] = now := rfl
theorem f49_2 {S now bu le mo T i d : Int} : e49.fn 2 [S, now, bu, le, mo, T, i, d] = bu := rfl
theorem f49_3 {S now bu le mo T i d : Int} : e49.fn 3 [S, now, bu, le, mo, T, i, d] = le + 1 := rfl
theorem f49_4 {S now bu le mo T i d : Int} : e49.fn 4 [S, now, bu, le, mo, T, i, d] = mo := rfl
theorem f49_5 {S now bu le mo T i d : Int} : e49.fn 5 [S, now, bu, le, mo, T, i, d] = cd (ptW now d (dc S, dc T) i.toNat).2 := rfl

theorem ok24 : EntryOK Try.prog G0 e24 := cFok.entryP mixed ev_24 _ rfl _ rfl fun xs hf hp => by
  obtain ⟨l, hl, hF⟩ := ctx_P (l0 := cF.l)
  show ob_24.tt cF.l.F _ = true ∧ outsP e24.fn _ cF.l.F _ _ _ _
  rw [hl]
  have F46 := FC (k := 46) rfl (hF e46 (by rfl) (by decide))
  have F47 := FC (k := 47) rfl (hF e47 (by rfl) (by decide))
  have F48 := FC (k := 48) rfl (hF e48 (by rfl) (by decide))
  have hSS := And.intro F46 (And.intro F47 F48)
  obtain ⟨S, now, bu, le, mo, T, i, rfl⟩ := fits7 hf
  obtain ⟨h0, h1, h2, h3, h4, h5, h6, _⟩ := hf
  simp only [norm_i, norm_x] at h1 h2 h3 h4 h6
  obtain ⟨⟨Q, p1⟩, p2, p3⟩ := hp
  replace p1 : WOK now bu le (dc S) (dc T) Q (bu * (255 - now % 256)) := p1
  have q1 : 0 < ((dc T).length : Int) ∧ ((dc T).length : Int) ≤ 4096 := ⟨by have := p1.ct; omega, by have := p1.ct; omega⟩
  have hle := p1.le_rng
  by_cases hr : 0 ≤ i ∧ i < ((dc T).length : Int)
  · have c4 := rowsC p1.rT (i := i.toNat) (j := 4) (by omega) rfl
    have hdr := p1.dr i.toNat (by omega)
    by_cases hz : gC (dc T) i.toNat 4 = 0
    · refine ⟨?_, ?_, ?_, ?_, ?_, ?_, ?_, ?_, trivial⟩
      all_goals simp (disch := omega) only [ob_24, q_24_0, q_24_1, q_24_2, q_24_3, es_24, e24, fn24, riW, lenT, SW, TW, idW, ewA, ewL, preC, binI, dvI, shI, cmpB, env, bi, List.headD, List.tail, List.map, Nat.reduceAdd, ewB, ewM, if_true, if_false, implies_true, forall_const, ne_eq, reduceCtorEq, Int.reduceEq, Int.reduceLT, Int.reduceLE, Int.reduceToNat, Int.reduceAdd, Int.reduceSub, Int.reduceMul, Int.reduceNeg, Int.reduceBEq, Nat.reduceLT, Nat.reduceEqDiff, hSS, h1, h2, h3, h4, h6, y46 q1, y47 q1, f47, gC_def, c4, hr, hz]
    · have w3 : IntKind.i64.wrap (le - 1) = le - 1 := i64w (by omega) (by omega)
      have y := y48 (mo := mo) p1 hr (by omega)
      refine ⟨?_, ?_, ?_, ?_, ?_, ?_, ?_, ?_, trivial⟩
      all_goals simp (disch := omega) only [ob_24, q_24_0, q_24_1, q_24_2, q_24_3, es_24, e24, fn24, riW, lenT, SW, TW, idW, ewA, ewL, preC, binI, dvI, shI, cmpB, env, bi, List.headD, List.tail, List.map, Nat.reduceAdd, ewB, ewM, if_true, if_false, implies_true, forall_const, ne_eq, reduceCtorEq, Int.reduceEq, Int.reduceLT, Int.reduceLE, Int.reduceToNat, Int.reduceAdd, Int.reduceSub, Int.reduceMul, Int.reduceNeg, Int.reduceBEq, Nat.reduceLT, Nat.reduceEqDiff, hSS, h1, h2, h3, h4, h6, y46 q1, y47 q1, f47, gC_def, c4, hr, hz, y, w3, f48_0, f48_1, f48_2, f48_3, f48_4, f48_5]
  · refine ⟨?_, ?_, ?_, ?_, ?_, ?_, ?_, ?_, trivial⟩
    all_goals simp (disch := omega) only [ob_24, q_24_0, q_24_1, q_24_2, q_24_3, es_24, e24, fn24, riW, lenT, SW, TW, idW, ewA, ewL, preC, binI, dvI, shI, cmpB, env, bi, List.headD, List.tail, List.map, Nat.reduceAdd, ewB, ewM, if_true, if_false, implies_true, forall_const, ne_eq, reduceCtorEq, Int.reduceEq, Int.reduceLT, Int.reduceLE, Int.reduceToNat, Int.reduceAdd, Int.reduceSub, Int.reduceMul, Int.reduceNeg, Int.reduceBEq, Nat.reduceLT, Nat.reduceEqDiff, hSS, h1, h2, h3, h4, h6, y46 q1, y47 q1, f47, gC_def, hr]
    rw [if_pos (by omega)]

theorem ok14 : EntryOK Try.prog G0 e14 := cFok.entryP mixed ev_14 _ rfl _ rfl fun xs hf hp => by
  obtain ⟨l, hl, hF⟩ := ctx_P (l0 := cF.l)
  show ob_14.tt cF.l.F _ = true ∧ outsP e14.fn _ cF.l.F _ _ _ _
  rw [hl]
  have F46 := FC (k := 46) rfl (hF e46 (by rfl) (by decide))
  have F47 := FC (k := 47) rfl (hF e47 (by rfl) (by decide))
  have F48 := FC (k := 48) rfl (hF e48 (by rfl) (by decide))
  have F49 := FC (k := 49) rfl (hF e49 (by rfl) (by decide))
  have hSS := And.intro (And.intro F46 F47) (And.intro F48 F49)
  obtain ⟨S, now, bu, le, mo, T, i, d, rfl⟩ := fits8 hf
  obtain ⟨h0, h1, h2, h3, h4, h5, h6, h7, _⟩ := hf
  simp only [norm_i, norm_x] at h1 h2 h3 h4 h6 h7
  obtain ⟨⟨Q, p1⟩, p2, p3⟩ := hp
  replace p1 : WOK now bu le (dc S) (dc T) Q (bu * (255 - now % 256)) := p1
  have q1 : 0 < ((dc T).length : Int) ∧ ((dc T).length : Int) ≤ 4096 := ⟨by have := p1.ct; omega, by have := p1.ct; omega⟩
  have hle := p1.le_rng
  have htm := p1.tm
  have w7 : IntKind.i64.wrap (now + 2147483648) = now + 2147483648 := i64w (by omega) (by omega)
  by_cases hr : 0 ≤ i ∧ i < ((dc T).length : Int)
  · by_cases hd : now < d ∧ d ≤ now + 2147483648
    · have hk : okA [S, now, bu, le, mo, T, i, d] := ⟨hr, hd⟩
      have c4 := rowsC p1.rT (i := i.toNat) (j := 4) (by omega) rfl
      have hdr := p1.dr i.toNat (by omega)
      have g1 : ¬ d ≤ now := by omega
      have g2 : ¬ now + 2147483648 < d := by omega
      by_cases hz : 0 < gC (dc T) i.toNat 4
      · have w3 : IntKind.i64.wrap (le - 1) = le - 1 := i64w (by omega) (by omega)
        have y := y48 (mo := mo) p1 hr hz
        obtain ⟨A, B, _, k1, k2, k3, k4⟩ := p1.drop (i := i.toNat) (by omega) hz
        obtain ⟨S1, eS⟩ : ∃ S1, S1 = cd (dpW now (dc S, dc T) i.toNat).1 := ⟨_, rfl⟩
        obtain ⟨T1, eT⟩ : ∃ T1, T1 = cd (dpW now (dc S, dc T) i.toNat).2 := ⟨_, rfl⟩
        have dS : dc S1 = (dpW now (dc S, dc T) i.toNat).1 := by rw [eS, dc_cd]
        have dT : dc T1 = (dpW now (dc S, dc T) i.toNat).2 := by rw [eT, dc_cd]
        have y' : e49.pre [S1, now, bu, le - 1, mo, T1, i, d] := by
          refine y49 (Q := _) (w := _) (by rw [dS, dT]; exact k1) (by rw [dT]; exact ⟨hr.1, by rw [show (dpW now (dc S, dc T) i.toNat).2.length = (dc T).length from k2]; exact hr.2⟩) (by rw [dT]; exact k4) (by omega)
        have w5 : IntKind.i64.wrap (le - 1 + 1) = le := by rw [i64w (by omega) (by omega)]; omega
        refine ⟨?_, ?_, ?_, ?_, ?_, ?_, ?_, ?_, trivial⟩
        all_goals simp (disch := omega) only [ob_14, q_14_0, q_14_1, q_14_2, q_14_3, q_14_4, q_14_5, q_14_6, q_14_7, q_14_8, es_14, e14, fn14, riW, lenT, SW, TW, idW, armW, clW, ewA, ewL, preC, binI, dvI, shI, cmpB, env, bi, List.headD, List.tail, List.map, Nat.reduceAdd, ewB, ewM, if_true, if_false, implies_true, forall_const, ne_eq, reduceCtorEq, Int.reduceEq, Int.reduceLT, Int.reduceLE, Int.reduceToNat, Int.reduceAdd, Int.reduceSub, Int.reduceMul, Int.reduceNeg, Int.reduceBEq, Nat.reduceLT, Nat.reduceEqDiff, hSS, h1, h2, h3, h4, h6, h7, y46 q1, y47 q1, f47, gC_def, c4, hr, if_pos hk, hd.1, hd.2, g1, g2, hz, y, w3, w5, w7, f48_0, f48_1, f48_2, f48_3, f48_4, f48_5, ← eS, ← eT, y', f49_0, f49_1, f49_2, f49_3, f49_4, f49_5, dS, dT]
        all_goals (try rfl)
      · have e4 : gC (dc T) i.toNat 4 = 0 := by omega
        have y := y49 (mo := mo) (d := d) p1 hr e4 (by omega)
        have w5 : IntKind.i64.wrap (le + 1) = le + 1 := i64w (by omega) (by omega)
        refine ⟨?_, ?_, ?_, ?_, ?_, ?_, ?_, ?_, trivial⟩
        all_goals simp (disch := omega) only [ob_14, q_14_0, q_14_1, q_14_2, q_14_3, q_14_4, q_14_5, q_14_6, q_14_7, q_14_8, es_14, e14, fn14, riW, lenT, SW, TW, idW, armW, clW, ewA, ewL, preC, binI, dvI, shI, cmpB, env, bi, List.headD, List.tail, List.map, Nat.reduceAdd, ewB, ewM, if_true, if_false, implies_true, forall_const, ne_eq, reduceCtorEq, Int.reduceEq, Int.reduceLT, Int.reduceLE, Int.reduceToNat, Int.reduceAdd, Int.reduceSub, Int.reduceMul, Int.reduceNeg, Int.reduceBEq, Nat.reduceLT, Nat.reduceEqDiff, hSS, h1, h2, h3, h4, h6, h7, y46 q1, y47 q1, f47, gC_def, c4, hr, if_pos hk, hd.1, hd.2, g1, g2, hz, y, w5, w7, f49_0, f49_1, f49_2, f49_3, f49_4, f49_5]
    · have hk : ¬ okA [S, now, bu, le, mo, T, i, d] := fun h => hd h.2
      have hn : now < d → now + 2147483648 < d := fun _ => by omega
      refine ⟨?_, ?_, ?_, ?_, ?_, ?_, ?_, ?_, trivial⟩
      all_goals simp (disch := omega) only [ob_14, q_14_0, q_14_1, q_14_2, q_14_3, q_14_4, q_14_5, q_14_6, q_14_7, q_14_8, es_14, e14, fn14, riW, lenT, SW, TW, idW, ewA, ewL, preC, binI, dvI, shI, cmpB, env, bi, List.headD, List.tail, List.map, Nat.reduceAdd, ewB, ewM, if_true, if_false, implies_true, forall_const, ne_eq, reduceCtorEq, Int.reduceEq, Int.reduceLT, Int.reduceLE, Int.reduceToNat, Int.reduceAdd, Int.reduceSub, Int.reduceMul, Int.reduceNeg, Int.reduceBEq, Nat.reduceLT, Nat.reduceEqDiff, hSS, h1, h2, h3, h4, h6, h7, y46 q1, y47 q1, f47, gC_def, hr, hd, if_neg hk, w7]
      all_goals first | exact fun h => h | rw [if_pos hn]
  · have hk : ¬ okA [S, now, bu, le, mo, T, i, d] := fun h => hr h.1
    refine ⟨?_, ?_, ?_, ?_, ?_, ?_, ?_, ?_, trivial⟩
    all_goals simp (disch := omega) only [ob_14, q_14_0, q_14_1, q_14_2, q_14_3, q_14_4, q_14_5, q_14_6, q_14_7, q_14_8, es_14, e14, fn14, riW, lenT, SW, TW, idW, ewA, ewL, preC, binI, dvI, shI, cmpB, env, bi, List.headD, List.tail, List.map, Nat.reduceAdd, ewB, ewM, if_true, if_false, implies_true, forall_const, ne_eq, reduceCtorEq, Int.reduceEq, Int.reduceLT, Int.reduceLE, Int.reduceToNat, Int.reduceAdd, Int.reduceSub, Int.reduceMul, Int.reduceNeg, Int.reduceBEq, Nat.reduceLT, Nat.reduceEqDiff, hSS, h1, h2, h3, h4, h6, h7, y46 q1, y47 q1, f47, gC_def, hr, if_neg hk, w7]

end
end Go.Proofs.Ytfhheeoejncfgaa.Ew
