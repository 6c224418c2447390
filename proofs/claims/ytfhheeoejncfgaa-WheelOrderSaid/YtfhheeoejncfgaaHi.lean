/- Layer 18: New. -/
import Derived.Test.YtfhheeoejncfgaaHh
set_option linter.unusedVariables false
set_option linter.unusedSimpArgs false
namespace Go.Proofs.Ytfhheeoejncfgaa.Ew
open Go Go.RowKit
noncomputable section
--P Try.prog G0

def newW (now c b : Int) : Prop := (0 ≤ now ∧ now ≤ 1099511627776) ∧ (1 ≤ c ∧ c ≤ 4096) ∧ (1 ≤ b ∧ b ≤ 4096) ∧ c ≤ 256 * b
def S0 : RL := List.replicate 2049 [0, 0, 0]
def Tn (c : Int) : RL := List.replicate c.toNat [0, 0, 0, 0, 0]
def fn13 (j : Nat) (xs : List Int) : Int := match j with
  | 0 => cd S0
  | 1 => env xs 0
  | 2 => env xs 2
  | 3 => 0
  | 4 => 0
  | _ => cd (Tn (env xs 1))
def e13 : Ent := ⟨13, 13, [i64, i64, i64], [], [], .tup [wsh, .lt (.i .i64) 0], fn13, fun xs => newW (env xs 0) (env xs 1) (env xs 2)⟩
def fnN (_ : Nat) (xs : List Int) : Int := if (0 ≤ env xs 0 ∧ env xs 0 ≤ 1099511627776) ∧ (1 ≤ env xs 1 ∧ env xs 1 ≤ 4096) ∧ (1 ≤ env xs 2 ∧ env xs 2 ≤ 4096) then 180 else 2
def e13b : Ent := ⟨1013, 13, [i64, i64, i64], [], [], .tup [.nul .nP, i64], fnN, fun xs => ¬ newW (env xs 0) (env xs 1) (env xs 2)⟩
def cI : Ctx := ⟨[], []⟩

def q_13_0 : E := (.or (.or (.or (.or (.or (.cmp .lss (.var (.i .i64) 0) (.lit (.i .i64) 0)) (.cmp .gtr (.var (.i .i64) 0) (.lit (.i .i64) 1099511627776))) (.cmp .lss (.var (.i .i64) 1) (.lit (.i .i64) 1))) (.cmp .gtr (.var (.i .i64) 1) (.lit (.i .i64) 4096))) (.cmp .lss (.var (.i .i64) 2) (.lit (.i .i64) 1))) (.cmp .gtr (.var (.i .i64) 2) (.lit (.i .i64) 4096)))
def q_13_1 : E := (.cmp .lss (.bin .mul .i64 (.lit (.i .i64) 256) (.var (.i .i64) 2)) (.var (.i .i64) 1))
def q_13_2 : E := (.or q_13_0 q_13_1)
def q_13_3 : E := (.not q_13_2)
def ob_13 : E := (.and (.or (.not (.and (.not q_13_0) (.not q_13_1))) (.and (.cmp .geq (.var (.i .i64) 1) (.lit (.i .i64) 0)) (.cmp .leq (.var (.i .i64) 1) (.lit .x 3518437208883)))) (.and (.and q_13_3 (.cmp .eql (.ite q_13_2 (.ite q_13_0 (.lit (.i .i64) 2) (.lit (.i .i64) 180)) (.lit (.i .i64) 0)) (.lit (.i .i64) 0))) q_13_3))
def es_13 : List E := [(.app .x 0 7 [(.lit (.i .i64) 2049), (.lit (.i .i64) 0), (.lit (.i .i64) 0), (.lit (.i .i64) 0)]), (.var (.i .i64) 0), (.var (.i .i64) 2), (.lit (.i .i64) 0), (.lit (.i .i64) 0), (.app .x 0 7 [(.var (.i .i64) 1), (.lit (.i .i64) 0), (.lit (.i .i64) 0), (.lit (.i .i64) 0), (.lit (.i .i64) 0), (.lit (.i .i64) 0)])]
theorem ev_13 : evE Try.prog G0 (tabOf cI.fs) (ltOf cI.ls) 40 10 e13 = some (ob_13, es_13) := by kernel_rfl

def q_13b_0 : E := (.or (.or (.or (.or (.or (.cmp .lss (.var (.i .i64) 0) (.lit (.i .i64) 0)) (.cmp .gtr (.var (.i .i64) 0) (.lit (.i .i64) 1099511627776))) (.cmp .lss (.var (.i .i64) 1) (.lit (.i .i64) 1))) (.cmp .gtr (.var (.i .i64) 1) (.lit (.i .i64) 4096))) (.cmp .lss (.var (.i .i64) 2) (.lit (.i .i64) 1))) (.cmp .gtr (.var (.i .i64) 2) (.lit (.i .i64) 4096)))
def q_13b_1 : E := (.cmp .lss (.bin .mul .i64 (.lit (.i .i64) 256) (.var (.i .i64) 2)) (.var (.i .i64) 1))
def q_13b_2 : E := (.or q_13b_0 q_13b_1)
def ob_13b : E := (.and (.or (.not (.and (.not q_13b_0) (.not q_13b_1))) (.and (.cmp .geq (.var (.i .i64) 1) (.lit (.i .i64) 0)) (.cmp .leq (.var (.i .i64) 1) (.lit .x 3518437208883)))) q_13b_2)
def es_13b : List E := [(.ite q_13b_2 (.ite q_13b_0 (.lit (.i .i64) 2) (.lit (.i .i64) 180)) (.lit (.i .i64) 0))]
theorem ev_13b : evE Try.prog G0 (tabOf cI.fs) (ltOf cI.ls) 40 10 e13b = some (ob_13b, es_13b) := by kernel_rfl

theorem fits3 {k1 k2 k3 : K} {xs : List Int} (h : fits [k1, k2, k3] xs) : ∃ a b c, xs = [a, b, c] := by
  have := fits_length h
  match xs, this with
  | [a, b, c], _ => exact ⟨a, b, c, rfl⟩
theorem cIok : cI.OK Try.prog G0 := Ctx.OK.nil

theorem ok13 : EntryOK Try.prog G0 e13 := cIok.entryP mixed ev_13 _ rfl _ rfl fun xs hf hp => by
  obtain ⟨l, hl, hF⟩ := ctx_P (l0 := cI.l)
  show ob_13.tt cI.l.F _ = true ∧ outsP e13.fn _ cI.l.F _ _ _ _
  rw [hl]
  obtain ⟨now, c, b, rfl⟩ := fits3 hf
  obtain ⟨h0, h1, h2, _⟩ := hf
  simp only [norm_i] at h0 h1 h2
  obtain ⟨⟨a1, a2⟩, ⟨b1, b2⟩, ⟨c1, c2⟩, d1⟩ := hp
  simp only [ewA, ewL, preC, binI, dvI, shI, cmpB, env, bi, List.headD, List.tail, List.map, Nat.reduceAdd] at a1 a2 b1 b2 c1 c2 d1
  have w1 : IntKind.i64.wrap (256 * b) = 256 * b := i64w (by omega) (by omega)
  refine ⟨?_, ?_, ?_, ?_, ?_, ?_, ?_, trivial⟩
  all_goals simp (disch := omega) only [ob_13, q_13_0, q_13_1, q_13_2, q_13_3, es_13, e13, fn13, S0, Tn, ewA, ewL, preC, binI, dvI, shI, cmpB, env, bi, List.headD, List.tail, List.map, Nat.reduceAdd, ewB, ewM, if_true, if_false, implies_true, forall_const, ne_eq, reduceCtorEq, Int.reduceEq, Int.reduceLT, Int.reduceLE, Int.reduceToNat, Int.reduceAdd, Int.reduceSub, Int.reduceMul, Int.reduceNeg, Int.reduceBEq, Nat.reduceLT, Nat.reduceEqDiff, h0, h1, h2, w1]
  rw [if_neg (by omega)]
  omega

theorem ok13b : EntryOK Try.prog G0 e13b := cIok.entryP mixed ev_13b _ rfl _ rfl fun xs hf hp => by
  obtain ⟨l, hl, hF⟩ := ctx_P (l0 := cI.l)
  show ob_13b.tt cI.l.F _ = true ∧ outsP e13b.fn _ cI.l.F _ _ _ _
  rw [hl]
  obtain ⟨now, c, b, rfl⟩ := fits3 hf
  obtain ⟨h0, h1, h2, _⟩ := hf
  simp only [norm_i] at h0 h1 h2
  replace hp : ¬ newW now c b := hp
  unfold newW at hp
  have w1 : (1 ≤ b ∧ b ≤ 4096) → IntKind.i64.wrap (256 * b) = 256 * b := fun h => i64w (by omega) (by omega)
  generalize hW : IntKind.i64.wrap (256 * b) = W at w1
  refine ⟨?_, ?_, trivial⟩
  all_goals simp (disch := omega) only [ob_13b, q_13b_0, q_13b_1, q_13b_2, es_13b, e13b, fnN, ewA, ewL, preC, binI, dvI, shI, cmpB, env, bi, List.headD, List.tail, List.map, Nat.reduceAdd, ewB, ewM, if_true, if_false, implies_true, forall_const, ne_eq, reduceCtorEq, Int.reduceEq, Int.reduceLT, Int.reduceLE, Int.reduceToNat, Int.reduceAdd, Int.reduceSub, Int.reduceMul, Int.reduceNeg, Int.reduceBEq, Nat.reduceLT, Nat.reduceEqDiff, h0, h1, h2, hW]
  · omega
  · repeat' split
    all_goals omega

end
end Go.Proofs.Ytfhheeoejncfgaa.Ew
