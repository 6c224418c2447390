/- Layer 19: what comes is taken out of a list of deadlines. -/
import Derived.Test.YtnockichpnaoeaaLj
set_option linter.unusedVariables false
set_option linter.unusedSimpArgs false
namespace Go.Proofs.Ytnockichpnaoeaa.Ew
open Go Go.RowKit
noncomputable section
--P Try.prog G0

def iRow : Row := Row.ofKs intK
def lnI : Sh := .lsn 3 iRow
def obL (j : Nat) : Ob := { j := j, ty := 3, tl := some (Tl.lst iRow), cs := [.sc .x] }
/-- A deadline is reached. -/
def dueB (now d : Int) : Bool := decide (0 < d) && decide (d ≤ now)
def anyDue (L : RL) (now : Int) : Bool := L.any fun r => dueB now (r.headD 0)
def bx3 : Sh := .obj 3 [i64]
def cfn : Sh := .fnc 69 [bx3]
def preIf (xs : List Int) : Prop := rowsOK intK (dc (env xs 0)) ∧ env xs 2 = ((dc (env xs 0)).length : Int) ∧ 0 ≤ env xs 3 ∧ env xs 3 ≤ env xs 2 ∧ env xs 2 ≤ 4096
def postIf (xs ys : List Int) : Prop := (env ys 0 = 1 ∧ anyDue ((dc (env xs 0)).drop (env xs 3).toNat) (env xs 1) = false) ∨ (env ys 0 = 0 ∧ anyDue ((dc (env xs 0)).drop (env xs 3).toNat) (env xs 1) = true ∧ 0 ≤ env ys 1 ∧ env ys 1 < env xs 2)
def muIf (xs : List Int) : Nat := (env xs 2 - env xs 3).toNat
def pIf : List Bool := [true,false,true,false]
def lbIf : LEnt := ⟨⟨9097, 999999, [lio, cfn, .lt (.i .i64) 0, i64, i64], [], [0, 1], .tup [.sc .b, i64], z0, preIf⟩, [0, 1, 4, 7, 8], [4], [5] ++ (List.range 11).map (· + 8), [.ex 0, .ret], 19, []⟩

def defs_If : List (Nat × E) := []
def q_If_0 : E := (.and (.cmp .gtr (aI 0 1 [(vX 0), (vI 3), (.lit .x 0)]) (lI 0)) (.cmp .leq (aI 0 1 [(vX 0), (vI 3), (.lit .x 0)]) (vI 1)))
def q_If_1 : E := (.and (.cmp .lss (vI 3) (vI 2)) (.not q_If_0))
def q_If_2 : E := (.or (.not (.cmp .lss (vI 3) (vI 2))) (.and q_If_1 (.app .b 9097 0 [(vX 0), (vI 1), (vI 2), (.bin .add .i64 (vI 3) (lI 1))])))
def q_If_3 : E := (aI 9097 1 [(vX 0), (vI 1), (vI 2), (.bin .add .i64 (vI 3) (lI 1))])
def ob_If : E := (.and (.or (.not (.cmp .lss (vI 3) (vI 2))) (.and (.cmp .geq (vI 3) (lI 0)) (.cmp .lss (vI 3) (aI 0 0 [(vX 0)])))) (.or (.not q_If_1) (.app .b 9097 1000000 [(vX 0), (vI 1), (vI 2), (.bin .add .i64 (vI 3) (lI 1))])))
def es_If : List E := [(.ite q_If_2 (.lit .b 1) (.lit .b 0)), (.ite q_If_2 (.ite (.not (.cmp .lss (vI 3) (vI 2))) (lI 0) q_If_3) (.ite (.and (.cmp .lss (vI 3) (vI 2)) q_If_0) (vI 3) q_If_3))]
def leIf : LEnt := lbIf.fw (fnL lbIf cI.l ob_If es_If postIf muIf)
theorem ev_If : evL Try.prog G0 (tabOf cI.fs) (evFn Try.prog G0 (tabOf cI.fs) (ltOf cI.ls) 40 10) 40 (subL cI.ls 97 pIf) leIf (bodyAt Try.prog 97 pIf) = some (ob_If, es_If) := by kernel_rfl

def pre68 (xs : List Int) : Prop := rowsOK intK (dc (env xs 0)) ∧ ((dc (env xs 0)).length : Int) ≤ 4096
def post68 (xs ys : List Int) : Prop := env ys 0 = b2i (anyDue (dc (env xs 0)) (env xs 1))
def b68 : Ent := ⟨368, 68, [lio, cfn], [], [0, 1], .sc .b, z0, pre68⟩
def cIf : Ctx := ⟨[], [(97, pIf, leIf)]⟩
def cIfn : Ctx := cIf.nm

def a_z68_0 : List E := [(vX 0), (vI 1), (aI 0 0 [(vX 0)]), (lI 0)]
def defs_z68 : List (Nat × E) := [(640058220800128, (.app .b 100009097 0 a_z68_0)),
  (640058220800129, (aI 100009097 1 a_z68_0))]
def ob_z68 : E := (.and (.app .b 100009097 1000000 [(vX 0), (vI 1), (aI 0 0 [(vX 0)]), (lI 0)]) (dE defs_z68 0 2))
def es_z68 : List E := [(.cmp .geq (.ite (.not (.var .b 640058220800128)) (vI 640058220800129) (lI (-1))) (lI 0))]
def z68 : Ent := b68.fw (fnR cIfn.l.F b68.np ob_z68 es_z68 post68)
theorem ev_z68 : evE Try.prog G0 (tabOf cIfn.fs) (ltOf cIfn.ls) 40 10 z68 = some (ob_z68, es_z68) := by kernel_rfl

/-- These timers may come. -/
def mayCome (D : RL) (now : Int) (R : List Nat) : Prop := R.Nodup ∧ ∀ r ∈ R, r < D.length ∧ 0 < gC D r 0 ∧ gC D r 0 ≤ now
def taken (D D' : RL) (R : List Nat) : Prop := rowsOK intK D' ∧ D'.length = D.length ∧ ∀ j, j < D.length → gC D' j 0 = if j ∈ R then 0 else gC D j 0
def preCm (xs : List Int) : Prop := (∃ R, (dc (env xs 2)).drop (env xs 4).toNat = idR R ∧ mayCome (dc (env xs 0)) (env xs 1) R) ∧ rowsOK intK (dc (env xs 0)) ∧ ((dc (env xs 0)).length : Int) ≤ 4096 ∧ rowsOK intK (dc (env xs 2)) ∧ env xs 3 = ((dc (env xs 2)).length : Int) ∧ 0 ≤ env xs 4 ∧ env xs 4 ≤ env xs 3 ∧ env xs 3 ≤ 4096
def postCm (xs ys : List Int) : Prop := ∀ R, (dc (env xs 2)).drop (env xs 4).toNat = idR R → taken (dc (env xs 0)) (dc (env ys 0)) R
def muCm (xs : List Int) : Nat := (env xs 3 - env xs 4).toNat
def pCm : List Bool := [true,false,true,false]
def lbCm : LEnt := ⟨⟨9047, 999999, [lnI, bx3, lio, i64, i64], [obL 0], [1, 2], .tup [], z0, preCm⟩, [0, 6, 11, 12, 13], [], [10] ++ (List.range 31).map (· + 13), [.ex 0], 52, []⟩

def defs_Cm : List (Nat × E) := []
def q_Cm_0 : E := (.or (.cmp .lss (aI 0 1 [(vX 2), (vI 4), (.lit .x 0)]) (lI 0)) (.cmp .geq (aI 0 1 [(vX 2), (vI 4), (.lit .x 0)]) (aI 0 0 [(vX 0)])))
def q_Cm_1 : E := (.and (.cmp .geq (aI 0 1 [(vX 2), (vI 4), (.lit .x 0)]) (lI 0)) (.cmp .lss (aI 0 1 [(vX 2), (vI 4), (.lit .x 0)]) (aI 0 0 [(vX 0)])))
def q_Cm_2 : E := (.or q_Cm_0 q_Cm_1)
def q_Cm_3 : E := (aI 0 1 [(vX 0), (aI 0 1 [(vX 2), (vI 4), (.lit .x 0)]), (.lit .x 0)])
def q_Cm_4 : E := (.or q_Cm_0 (.cmp .eql q_Cm_3 (lI 0)))
def q_Cm_5 : E := (.or q_Cm_4 (.cmp .gtr q_Cm_3 (vI 1)))
def q_Cm_6 : E := (aX 0 6 [(vX 0), (aI 0 1 [(vX 2), (vI 4), (.lit .x 0)]), (.lit .x 0), (lI 0)])
def q_Cm_7 : E := (aX 9047 0 [q_Cm_6, (vI 1), (vX 2), (vI 3), (.bin .add .i64 (vI 4) (lI 1))])
def ob_Cm : E := (.and (.and (.or (.not (.cmp .lss (vI 4) (vI 3))) (.and (.and (.cmp .geq (vI 4) (lI 0)) (.cmp .lss (vI 4) (aI 0 0 [(vX 2)]))) (.and (.and q_Cm_2 (.and q_Cm_2 (.or q_Cm_4 q_Cm_1))) (.or q_Cm_5 q_Cm_1)))) (.or (.not (.and (.cmp .lss (vI 4) (vI 3)) (.not q_Cm_5))) (.and (.app .b 9047 1000000 [q_Cm_6, (vI 1), (vX 2), (vI 3), (.bin .add .i64 (vI 4) (lI 1))]) (.cmp .eql (aI 0 0 [q_Cm_7]) (aI 0 0 [(vX 0)]))))) (.not (.and (.cmp .lss (vI 4) (vI 3)) q_Cm_5)))
def es_Cm : List E := [(.ite (.not (.cmp .lss (vI 4) (vI 3))) (vX 0) q_Cm_7)]
def leCm : LEnt := lbCm.fw (fnL lbCm cI.l ob_Cm es_Cm postCm muCm)
theorem ev_Cm : evL Try.prog G0 (tabOf cI.fs) (evFn Try.prog G0 (tabOf cI.fs) (ltOf cI.ls) 40 10) 40 (subL cI.ls 47 pCm) leCm (bodyAt Try.prog 47 pCm) = some (ob_Cm, es_Cm) := by kernel_rfl

def pre47 (xs : List Int) : Prop := (∃ R, dc (env xs 1) = idR R ∧ R.length ≤ 4096 ∧ mayCome (dc (env xs 0)) (env xs 2) R ∧ (0 < env xs 3 ∨ ∀ j, j < (dc (env xs 0)).length → j ∉ R → ¬ (0 < gC (dc (env xs 0)) j 0 ∧ gC (dc (env xs 0)) j 0 ≤ env xs 2))) ∧ rowsOK intK (dc (env xs 0)) ∧ ((dc (env xs 0)).length : Int) ≤ 4096
def post47 (xs ys : List Int) : Prop := ∀ R, dc (env xs 1) = idR R → taken (dc (env xs 0)) (dc (env ys 0)) R
def b47 : Ent := ⟨347, 47, [lnI, lio, i64, i64], [obL 0], [1], .lt .b 1, z0, pre47⟩
def cCm : Ctx := ⟨[z68], [(47, pCm, leCm)]⟩
def cCmn : Ctx := cCm.nm

def defs_z47 : List (Nat × E) := [(640057900800640, (aX 100009047 0 [(vX 0), (vI 2), (vX 1), (aI 0 0 [(vX 1)]), (lI 0)])),
  (640002355200640, (.app .b 100000368 0 [(vX 640057900800640), (vI 2)]))]
def ob_z47 : E := (.and (.and (.and (.and (.app .b 100009047 1000000 [(vX 0), (vI 2), (vX 1), (aI 0 0 [(vX 1)]), (lI 0)]) (.cmp .eql (aI 0 0 [(vX 640057900800640)]) (aI 0 0 [(vX 0)]))) (dE defs_z47 0 1)) (.or (.cmp .gtr (vI 3) (lI 0)) (.and (.app .b 100000368 1000000 [(vX 640057900800640), (vI 2)]) (dE defs_z47 1 1)))) (.or (.cmp .gtr (vI 3) (lI 0)) (.not (.var .b 640002355200640))))
def es_z47 : List E := [(vX 640057900800640)]
def z47 : Ent := b47.fw (fnR cCmn.l.F b47.np ob_z47 es_z47 post47)
theorem ev_z47 : evE Try.prog G0 (tabOf cCmn.fs) (ltOf cCmn.ls) 40 10 z47 = some (ob_z47, es_z47) := by kernel_rfl

theorem okIf : ItemOK Try.prog G0 97 pIf leIf ∧ PostOK leIf.ent postIf := by
  refine cIok.loopH mixed rfl ⟨_, _, _, Try.func97, rfl, rfl⟩ ev_If (by kernel_rfl) _ rfl fun xs hf hp φ hφ => ?_
  obtain ⟨l, hl, hS, hF⟩ := self_H lbIf φ muIf (muIf xs) cI.l (by decide)
  show ∃ ρ : Nat → Int, _ ∧ ob_If.tt (Tabs.F (enH lbIf φ muIf (muIf xs) :: cI.l)) ρ = true ∧ postIf xs (es_If.map (E.den (Tabs.F (enH lbIf φ muIf (muIf xs) :: cI.l)) ρ))
  rw [hl]
  replace hφ : ∀ ys, fits [.x, (.i .i64), (.i .i64), (.i .i64)] ys → lbIf.ent.pre ys → muIf ys < muIf xs → postIf ys (outsE φ ys 0 lbIf.ent.oks) := hφ
  have F9097 := FC (k := 9097) rfl hS
  replace hf : fits [.x, (.i .i64), (.i .i64), (.i .i64)] xs := hf
  obtain ⟨L, xs0, hx0, hL, hf0⟩ := fits_cons hf
  obtain ⟨now, xs1, hx1, hnow, hf1⟩ := fits_cons hf0
  obtain ⟨n, xs2, hx2, hn, hf2⟩ := fits_cons hf1
  obtain ⟨i, xs3, hx3, hi, hf3⟩ := fits_cons hf2
  have hxn := fits_nil hf3
  subst hxn hx3 hx2 hx1 hx0
  simp only [norm_i] at hnow hn hi
  obtain ⟨ρ, hρ⟩ : ∃ ρ : Nat → Int, ∀ i_, i_ < 4 → ρ i_ = env [L, now, n, i] i_ := ⟨env [L, now, n, i], fun _ _ => rfl⟩
  refine ⟨ρ, hρ, ?_⟩
  have r0 : ρ 0 = L := hρ 0 (by decide)
  have r1 : ρ 1 = now := hρ 1 (by decide)
  have r2 : ρ 2 = n := hρ 2 (by decide)
  have r3 : ρ 3 = i := hρ 3 (by decide)
  have hSS := And.intro (And.intro (And.intro F9097 r0) (And.intro r1 hnow)) (And.intro (And.intro r2 hn) (And.intro r3 hi))
  have hv0 := hnow
  obtain ⟨p1, p2, p3, p4, p5⟩ := hp
  replace p1 : rowsOK intK (dc L) := p1
  simp only [ewA, ewL, preC, binI, dvI, shI, cmpB, env, bi, List.headD, List.tail, List.map, Nat.reduceAdd] at p2 p3 p4 p5
  by_cases hi : i < n
  · have hl : i.toNat < (dc L).length := by omega
    obtain ⟨r, er, hr, _, hdr⟩ := row_at p1 p3 (by omega)
    obtain ⟨a, r1, rfl, ha, hr⟩ := fits_cons hr
    obtain rfl := fits_nil hr
    simp only [norm_i] at ha
    have hd : anyDue ((dc L).drop i.toNat) now = (dueB now a || anyDue ((dc L).drop (i + 1).toNat) now) := by
      rw [hdr]; rfl
    by_cases hv : 0 < a ∧ a ≤ now
    · have hb : dueB now a = true := by unfold dueB; rw [decide_eq_true hv.1, decide_eq_true hv.2]; rfl
      refine ⟨?_, ?_⟩
      · simp (disch := omega) only [ob_If, q_If_0, q_If_1, q_If_2, q_If_3, ewA, ewL, preC, binI, dvI, shI, cmpB, env, bi, List.headD, List.tail, List.map, Nat.reduceAdd, ewR, ewB, ewM, if_true, if_false, implies_true, forall_const, ne_eq, reduceCtorEq, Int.reduceEq, Int.reduceLT, Int.reduceLE, Int.reduceToNat, Int.reduceAdd, Int.reduceSub, Int.reduceMul, Int.reduceNeg, Int.reduceBEq, Nat.reduceLT, Nat.reduceEqDiff, hSS, hi, er, ha, hv]
        exact ⟨p3, by omega⟩
      · simp (disch := omega) only [es_If, q_If_0, q_If_1, q_If_2, q_If_3, ewA, ewL, preC, binI, dvI, shI, cmpB, env, bi, List.headD, List.tail, List.map, Nat.reduceAdd, ewR, ewB, ewM, if_true, if_false, implies_true, forall_const, ne_eq, reduceCtorEq, Int.reduceEq, Int.reduceLT, Int.reduceLE, Int.reduceToNat, Int.reduceAdd, Int.reduceSub, Int.reduceMul, Int.reduceNeg, Int.reduceBEq, Nat.reduceLT, Nat.reduceEqDiff, hSS, hi, er, ha, hv]
        refine Or.inr ⟨rfl, ?_, p3, hi⟩
        show anyDue ((dc L).drop i.toNat) now = true
        rw [hd, hb]; rfl
    · have hb : dueB now a = false := by
        unfold dueB
        by_cases h : 0 < a
        · rw [decide_eq_false (show ¬ a ≤ now from fun h' => hv ⟨h, h'⟩), Bool.and_false]
        · rw [decide_eq_false h, Bool.false_and]
      have yp : lbIf.ent.pre [L, now, n, i + 1] := ⟨p1, p2, by show 0 ≤ i + 1; omega, by show i + 1 ≤ n; omega, p5⟩
      have ym : muIf [L, now, n, i + 1] < muIf [L, now, n, i] := by show (n - (i + 1)).toNat < (n - i).toNat; omega
      have ih := hφ [L, now, n, i + 1] ⟨rfl, hv0, hn, i64w (by omega) (by omega), trivial⟩ yp ym
      have hv2 : 0 < a → now < a := by omega
      refine ⟨?_, ?_⟩
      · simp (disch := omega) only [ob_If, q_If_0, q_If_1, q_If_2, q_If_3, ewA, ewL, preC, binI, dvI, shI, cmpB, env, bi, List.headD, List.tail, List.map, Nat.reduceAdd, ewR, ewB, ewM, if_true, if_false, implies_true, forall_const, ne_eq, reduceCtorEq, Int.reduceEq, Int.reduceLT, Int.reduceLE, Int.reduceToNat, Int.reduceAdd, Int.reduceSub, Int.reduceMul, Int.reduceNeg, Int.reduceBEq, Nat.reduceLT, Nat.reduceEqDiff, hSS, hi, er, ha]
        exact ⟨⟨p3, by omega⟩, fun _ => ⟨yp, ym⟩⟩
      · obtain ⟨w0, hw0⟩ : ∃ w, K.b.norm (φ 0 [L, now, n, i + 1]) = w := ⟨_, rfl⟩
        obtain ⟨w1, hw1⟩ : ∃ w, IntKind.i64.wrap (φ 1 [L, now, n, i + 1]) = w := ⟨_, rfl⟩
        have c1 : ((0 < a → now < a) ∧ i2b w0 = true) ↔ i2b w0 = true := ⟨And.right, fun h => ⟨hv2, h⟩⟩
        simp (disch := omega) only [es_If, q_If_0, q_If_1, q_If_2, q_If_3, ewA, ewL, preC, binI, dvI, shI, cmpB, env, bi, List.headD, List.tail, List.map, Nat.reduceAdd, ewR, ewB, ewM, if_true, if_false, implies_true, forall_const, ne_eq, reduceCtorEq, Int.reduceEq, Int.reduceLT, Int.reduceLE, Int.reduceToNat, Int.reduceAdd, Int.reduceSub, Int.reduceMul, Int.reduceNeg, Int.reduceBEq, Nat.reduceLT, Nat.reduceEqDiff, hSS, hi, er, ha, hw0, hw1, c1, if_neg hv]
        have ih' : (w0 = 1 ∧ anyDue ((dc L).drop (i + 1).toNat) now = false) ∨ (w0 = 0 ∧ anyDue ((dc L).drop (i + 1).toNat) now = true ∧ 0 ≤ w1 ∧ w1 < n) := by rw [← hw0, ← hw1]; exact ih
        rw [hb, Bool.false_or] at hd
        show (_ ∧ anyDue ((dc L).drop i.toNat) now = false) ∨ (_ ∧ anyDue ((dc L).drop i.toNat) now = true ∧ _)
        rw [hd]
        rcases ih' with ⟨rfl, h2⟩ | ⟨rfl, h2, h3, h4⟩
        · exact Or.inl ⟨rfl, h2⟩
        · exact Or.inr ⟨rfl, h2, h3, h4⟩
  · refine ⟨?_, ?_⟩
    · simp (disch := omega) only [ob_If, q_If_0, q_If_1, q_If_2, q_If_3, ewA, ewL, preC, binI, dvI, shI, cmpB, env, bi, List.headD, List.tail, List.map, Nat.reduceAdd, ewR, ewB, ewM, if_true, if_false, implies_true, forall_const, ne_eq, reduceCtorEq, Int.reduceEq, Int.reduceLT, Int.reduceLE, Int.reduceToNat, Int.reduceAdd, Int.reduceSub, Int.reduceMul, Int.reduceNeg, Int.reduceBEq, Nat.reduceLT, Nat.reduceEqDiff, hSS, hi]
    · simp (disch := omega) only [es_If, q_If_0, q_If_1, q_If_2, q_If_3, ewA, ewL, preC, binI, dvI, shI, cmpB, env, bi, List.headD, List.tail, List.map, Nat.reduceAdd, ewR, ewB, ewM, if_true, if_false, implies_true, forall_const, ne_eq, reduceCtorEq, Int.reduceEq, Int.reduceLT, Int.reduceLE, Int.reduceToNat, Int.reduceAdd, Int.reduceSub, Int.reduceMul, Int.reduceNeg, Int.reduceBEq, Nat.reduceLT, Nat.reduceEqDiff, hSS, hi]
      refine Or.inl ⟨rfl, ?_⟩
      show anyDue ((dc L).drop i.toNat) now = false
      rw [List.drop_eq_nil_of_le (by omega)]; rfl

theorem cIfok : cIf.OK Try.prog G0 := Ctx.OK.addL (c := ⟨[], []⟩) Ctx.OK.nil okIf.1 rfl

theorem okz68 : EntryOK Try.prog G0 z68 ∧ PostOK z68 post68 := by
  refine cIfok.nm.entryH mixed ev_z68 (by kernel_rfl) _ rfl fun xs hf hp => ?_
  obtain ⟨l, hl, hF⟩ := ctx_P (l0 := cIfn.l)
  show ∃ ρ : Nat → Int, _ ∧ ob_z68.tt cIfn.l.F ρ = true ∧ post68 xs (es_z68.map (E.den cIfn.l.F ρ))
  rw [hl]
  have F9097 := FC (k := 100009097) rfl (hF leIf.nm.ent (by rfl) (by decide))
  replace hf : fits [.x, (.i .i64)] xs := hf
  obtain ⟨L, xs0, hx0, hL, hf0⟩ := fits_cons hf
  obtain ⟨now, xs1, hx1, hnow, hf1⟩ := fits_cons hf0
  have hxn := fits_nil hf1
  subst hxn hx1 hx0
  simp only [norm_i] at hnow
  obtain ⟨ρ, hρ, hd⟩ := solve (F := l.F) 2 defs_z68 (by kernel_rfl) [L, now]
  have hDf := dE_tt (by kernel_rfl) hd
  refine ⟨ρ, hρ, ?_⟩
  have r0 : ρ 0 = L := hρ 0 (by decide)
  have r1 : ρ 1 = now := hρ 1 (by decide)
  obtain ⟨v1, hv1, hd1, hn1⟩ := nmd hd 0 rfl
  obtain ⟨v2, hv2, hd2, hn2⟩ := nmd hd 1 rfl
  simp only [norm_i] at hn2
  simp (disch := omega) only [norm_i, a_z68_0, F9097, Ent.nm_fn, r0, r1, hnow, hv1, hn1, hv2, hn2, ewA, ewL, preC, binI, dvI, shI, cmpB, env, bi, List.headD, List.tail, List.map, Nat.reduceAdd, ewR, ewB, ewM, if_true, if_false, implies_true, forall_const, ne_eq, reduceCtorEq, Int.reduceEq, Int.reduceLT, Int.reduceLE, Int.reduceToNat, Int.reduceAdd, Int.reduceSub, Int.reduceMul, Int.reduceNeg, Int.reduceBEq, Nat.reduceLT, Nat.reduceEqDiff] at hd1 hd2
  have hSS := And.intro (And.intro (And.intro F9097 r0) (And.intro r1 hnow)) (And.intro (And.intro hv1 hn1) (And.intro hv2 (And.intro hn2 hDf)))
  obtain ⟨p1, p2⟩ := hp
  replace p1 : rowsOK intK (dc L) := p1
  replace p2 : ((dc L).length : Int) ≤ 4096 := p2
  have wL : IntKind.i64.wrap (((dc L).length : Nat) : Int) = (((dc L).length : Nat) : Int) := i64w (by omega) (by omega)
  simp only [wL] at hd1 hd2
  have yp : leIf.ent.pre [L, now, (((dc L).length : Nat) : Int), 0] := ⟨p1, rfl, by show (0 : Int) ≤ 0; decide, by show (0 : Int) ≤ (((dc L).length : Nat) : Int); omega, p2⟩
  have q := (PostOK.use (ks := [.x, (.i .i64), (.i .i64), (.i .i64)]) (os := [.b, (.i .i64)]) (vs := [v1, v2]) okIf.2 rfl rfl ⟨hd1, hd2, trivial⟩) ⟨rfl, hnow, wL, rfl, trivial⟩ yp
  replace q : (v1 = 1 ∧ anyDue ((dc L).drop 0) now = false) ∨ (v1 = 0 ∧ anyDue ((dc L).drop 0) now = true ∧ 0 ≤ v2 ∧ v2 < (((dc L).length : Nat) : Int)) := q
  rw [List.drop_zero] at q
  rcases q with ⟨rfl, q2⟩ | ⟨rfl, q2, q3, q4⟩
  · refine ⟨?_, ?_⟩
    · simp (disch := omega) only [ob_z68, ewA, ewL, preC, binI, dvI, shI, cmpB, env, bi, List.headD, List.tail, List.map, Nat.reduceAdd, ewR, ewB, ewM, if_true, if_false, implies_true, forall_const, ne_eq, reduceCtorEq, Int.reduceEq, Int.reduceLT, Int.reduceLE, Int.reduceToNat, Int.reduceAdd, Int.reduceSub, Int.reduceMul, Int.reduceNeg, Int.reduceBEq, Nat.reduceLT, Nat.reduceEqDiff, hSS, wL, yp]
    · simp (disch := omega) only [es_z68, ewA, ewL, preC, binI, dvI, shI, cmpB, env, bi, List.headD, List.tail, List.map, Nat.reduceAdd, ewR, ewB, ewM, if_true, if_false, implies_true, forall_const, ne_eq, reduceCtorEq, Int.reduceEq, Int.reduceLT, Int.reduceLE, Int.reduceToNat, Int.reduceAdd, Int.reduceSub, Int.reduceMul, Int.reduceNeg, Int.reduceBEq, Nat.reduceLT, Nat.reduceEqDiff, hSS, wL]
      show _ = b2i (anyDue (dc L) now)
      rw [q2]; rfl
  · refine ⟨?_, ?_⟩
    · simp (disch := omega) only [ob_z68, ewA, ewL, preC, binI, dvI, shI, cmpB, env, bi, List.headD, List.tail, List.map, Nat.reduceAdd, ewR, ewB, ewM, if_true, if_false, implies_true, forall_const, ne_eq, reduceCtorEq, Int.reduceEq, Int.reduceLT, Int.reduceLE, Int.reduceToNat, Int.reduceAdd, Int.reduceSub, Int.reduceMul, Int.reduceNeg, Int.reduceBEq, Nat.reduceLT, Nat.reduceEqDiff, hSS, wL, yp]
    · simp (disch := omega) only [es_z68, ewA, ewL, preC, binI, dvI, shI, cmpB, env, bi, List.headD, List.tail, List.map, Nat.reduceAdd, ewR, ewB, ewM, if_true, if_false, implies_true, forall_const, ne_eq, reduceCtorEq, Int.reduceEq, Int.reduceLT, Int.reduceLE, Int.reduceToNat, Int.reduceAdd, Int.reduceSub, Int.reduceMul, Int.reduceNeg, Int.reduceBEq, Nat.reduceLT, Nat.reduceEqDiff, hSS, wL]
      show _ = b2i (anyDue (dc L) now)
      rw [q2]; show b2i (decide (0 ≤ v2)) = b2i true; rw [decide_eq_true q3]

set_option maxHeartbeats 1000000 in
theorem okCm : ItemOK Try.prog G0 47 pCm leCm ∧ PostOK leCm.ent postCm := by
  refine cIok.loopH mixed rfl ⟨_, _, _, Try.func47, rfl, rfl⟩ ev_Cm (by kernel_rfl) _ rfl fun xs hf hp φ hφ => ?_
  obtain ⟨l, hl, hS, hF⟩ := self_H lbCm φ muCm (muCm xs) cI.l (by decide)
  show ∃ ρ : Nat → Int, _ ∧ ob_Cm.tt (Tabs.F (enH lbCm φ muCm (muCm xs) :: cI.l)) ρ = true ∧ postCm xs (es_Cm.map (E.den (Tabs.F (enH lbCm φ muCm (muCm xs) :: cI.l)) ρ))
  rw [hl]
  replace hφ : ∀ ys, fits [.x, (.i .i64), .x, (.i .i64), (.i .i64)] ys → lbCm.ent.pre ys → muCm ys < muCm xs → postCm ys (outsE φ ys 0 lbCm.ent.oks) := hφ
  have F9047 := FC (k := 9047) rfl hS
  replace hf : fits [.x, (.i .i64), .x, (.i .i64), (.i .i64)] xs := hf
  obtain ⟨D, xs0, hx0, hD, hf0⟩ := fits_cons hf
  obtain ⟨now, xs1, hx1, hnow, hf1⟩ := fits_cons hf0
  obtain ⟨L, xs2, hx2, hL, hf2⟩ := fits_cons hf1
  obtain ⟨n, xs3, hx3, hn, hf3⟩ := fits_cons hf2
  obtain ⟨i, xs4, hx4, hi, hf4⟩ := fits_cons hf3
  have hxn := fits_nil hf4
  subst hxn hx4 hx3 hx2 hx1 hx0
  simp only [norm_i] at hnow hn hi
  obtain ⟨ρ, hρ⟩ : ∃ ρ : Nat → Int, ∀ i_, i_ < 5 → ρ i_ = env [D, now, L, n, i] i_ := ⟨env [D, now, L, n, i], fun _ _ => rfl⟩
  refine ⟨ρ, hρ, ?_⟩
  have r0 : ρ 0 = D := hρ 0 (by decide)
  have r1 : ρ 1 = now := hρ 1 (by decide)
  have r2 : ρ 2 = L := hρ 2 (by decide)
  have r3 : ρ 3 = n := hρ 3 (by decide)
  have r4 : ρ 4 = i := hρ 4 (by decide)
  have hSS := And.intro (And.intro (And.intro F9047 r0) (And.intro r1 hnow)) (And.intro (And.intro r2 r3) (And.intro hn (And.intro r4 hi)))
  obtain ⟨⟨R, hLR, hnd, hR⟩, p1, p2, p3, p4, p5, p6, p7⟩ := hp
  replace hLR : (dc L).drop i.toNat = idR R := hLR
  replace hR : ∀ r ∈ R, r < (dc D).length ∧ 0 < gC (dc D) r 0 ∧ gC (dc D) r 0 ≤ now := hR
  replace p1 : rowsOK intK (dc D) := p1
  replace p3 : rowsOK intK (dc L) := p3
  simp only [ewA, ewL, preC, binI, dvI, shI, cmpB, env, bi, List.headD, List.tail, List.map, Nat.reduceAdd] at p2 p4 p5 p6 p7
  have hnw := hnow
  by_cases hi : i < n
  · obtain ⟨r, er, hr, hmem, hdrop⟩ := row_at p3 p5 (by omega)
    obtain ⟨x, r1, rfl, hx, hr⟩ := fits_cons hr
    obtain rfl := fits_nil hr
    simp only [norm_i] at hx
    rw [hdrop] at hLR
    obtain ⟨q, R1, rfl, rfl, hL1⟩ := idR_cons hLR
    have nd := List.nodup_cons.1 hnd
    obtain ⟨g1, g2, g3⟩ := hR q (List.mem_cons_self ..)
    have c0 := rowsC p1 (i := q) (j := 0) g1 rfl
    have tq : ((q : Nat) : Int).toNat = q := by omega
    have hs := p1.set g1 (v := 0) rfl
    have hgs := gC_set0 (v := 0) p1 g1
    have hsl : (setC (dc D) q 0 [0]).length = (dc D).length := setC_len ..
    have w1 : IntKind.i64.wrap (i + 1) = i + 1 := i64w (by omega) (by omega)
    have yp : lbCm.ent.pre [cd (setC (dc D) q 0 [0]), now, L, n, i + 1] := by
      refine ⟨⟨R1, hL1, nd.2, fun y hy => ?_⟩, ?_, ?_, p3, p4, by show 0 ≤ i + 1; omega, by show i + 1 ≤ n; omega, p7⟩
      · show y < (dc (cd _)).length ∧ 0 < gC (dc (cd _)) y 0 ∧ gC (dc (cd _)) y 0 ≤ now
        rw [dc_cd, hsl, hgs, if_neg (fun e => by subst e; exact nd.1 hy)]
        exact hR y (List.mem_cons_of_mem _ hy)
      · show rowsOK intK (dc (cd _)); rw [dc_cd]; exact hs
      · show ((dc (cd _)).length : Int) ≤ 4096; rw [dc_cd, hsl]; exact p2
    have ym : muCm [cd (setC (dc D) q 0 [0]), now, L, n, i + 1] < muCm [D, now, L, n, i] := by show (n - (i + 1)).toNat < (n - i).toNat; omega
    have i1 := hφ [cd (setC (dc D) q 0 [0]), now, L, n, i + 1] ⟨rfl, hnw, rfl, hn, w1, trivial⟩ yp ym
    obtain ⟨u1, u2, u3⟩ := i1 R1 hL1
    replace u1 : rowsOK intK (dc (φ 0 [cd (setC (dc D) q 0 [0]), now, L, n, i + 1])) := u1
    replace u2 : (dc (φ 0 [cd (setC (dc D) q 0 [0]), now, L, n, i + 1])).length = (dc (cd (setC (dc D) q 0 [0]))).length := u2
    replace u3 : ∀ j, j < (dc (cd (setC (dc D) q 0 [0]))).length → gC (dc (φ 0 [cd (setC (dc D) q 0 [0]), now, L, n, i + 1])) j 0 = if j ∈ R1 then 0 else gC (dc (cd (setC (dc D) q 0 [0]))) j 0 := u3
    rw [dc_cd, hsl] at u2 u3
    obtain ⟨V, hV⟩ : ∃ V, φ 0 [cd (setC (dc D) q 0 [0]), now, L, n, i + 1] = V := ⟨_, rfl⟩
    rw [hV] at u1 u2 u3
    have hne : gC (dc D) q 0 ≠ 0 := by omega
    have hset : List.set (dc D) q (splR (List.getD (dc D) q []) 0 [0]) = setC (dc D) q 0 [0] := rfl
    refine ⟨?_, ?_⟩
    · simp (disch := omega) only [ob_Cm, q_Cm_0, q_Cm_1, q_Cm_2, q_Cm_3, q_Cm_4, q_Cm_5, q_Cm_6, q_Cm_7, ewA, ewL, preC, binI, dvI, shI, cmpB, env, bi, List.headD, List.tail, List.map, Nat.reduceAdd, ewR, ewB, ewM, if_true, if_false, implies_true, forall_const, ne_eq, reduceCtorEq, Int.reduceEq, Int.reduceLT, Int.reduceLE, Int.reduceToNat, Int.reduceAdd, Int.reduceSub, Int.reduceMul, Int.reduceNeg, Int.reduceBEq, Nat.reduceLT, Nat.reduceEqDiff, hSS, hi, er, tq, gC_def, c0, w1, hset, hV]
      exact ⟨⟨⟨⟨p5, by omega⟩, ⟨fun h => h, fun h => h, fun h => h.1⟩, fun h => h.1.1⟩, fun _ => ⟨⟨yp, ym⟩, by rw [u2]⟩⟩, ⟨⟨by omega, by omega⟩, hne⟩, g3⟩
    · simp (disch := omega) only [es_Cm, q_Cm_0, q_Cm_1, q_Cm_2, q_Cm_3, q_Cm_4, q_Cm_5, q_Cm_6, q_Cm_7, ewA, ewL, preC, binI, dvI, shI, cmpB, env, bi, List.headD, List.tail, List.map, Nat.reduceAdd, ewR, ewB, ewM, if_true, if_false, implies_true, forall_const, ne_eq, reduceCtorEq, Int.reduceEq, Int.reduceLT, Int.reduceLE, Int.reduceToNat, Int.reduceAdd, Int.reduceSub, Int.reduceMul, Int.reduceNeg, Int.reduceBEq, Nat.reduceLT, Nat.reduceEqDiff, hSS, hi, er, tq, gC_def, c0, w1, hset, hV]
      intro R' hR'
      replace hR' : (dc L).drop i.toNat = idR R' := hR'
      rw [hdrop] at hR'
      obtain rfl := idR_inj (hLR.symm.trans hR')
      refine ⟨u1, u2, fun j hj => ?_⟩
      show gC (dc V) j 0 = if j ∈ q :: R1 then 0 else gC (dc D) j 0
      rw [u3 j hj, hgs]
      by_cases hj1 : j = q
      · subst hj1; simp
      · simp [hj1]
  · have eR : R = [] := by
      rw [List.drop_eq_nil_of_le (by omega)] at hLR
      exact idR_inj (R := []) hLR
    subst eR
    refine ⟨?_, ?_⟩
    · simp (disch := omega) only [ob_Cm, q_Cm_0, q_Cm_1, q_Cm_2, q_Cm_3, q_Cm_4, q_Cm_5, q_Cm_6, q_Cm_7, ewA, ewL, preC, binI, dvI, shI, cmpB, env, bi, List.headD, List.tail, List.map, Nat.reduceAdd, ewR, ewB, ewM, if_true, if_false, implies_true, forall_const, ne_eq, reduceCtorEq, Int.reduceEq, Int.reduceLT, Int.reduceLE, Int.reduceToNat, Int.reduceAdd, Int.reduceSub, Int.reduceMul, Int.reduceNeg, Int.reduceBEq, Nat.reduceLT, Nat.reduceEqDiff, hSS, hi]
    · simp (disch := omega) only [es_Cm, q_Cm_0, q_Cm_1, q_Cm_2, q_Cm_3, q_Cm_4, q_Cm_5, q_Cm_6, q_Cm_7, ewA, ewL, preC, binI, dvI, shI, cmpB, env, bi, List.headD, List.tail, List.map, Nat.reduceAdd, ewR, ewB, ewM, if_true, if_false, implies_true, forall_const, ne_eq, reduceCtorEq, Int.reduceEq, Int.reduceLT, Int.reduceLE, Int.reduceToNat, Int.reduceAdd, Int.reduceSub, Int.reduceMul, Int.reduceNeg, Int.reduceBEq, Nat.reduceLT, Nat.reduceEqDiff, hSS, hi]
      intro R' hR'
      replace hR' : (dc L).drop i.toNat = idR R' := hR'
      rw [hLR] at hR'
      obtain rfl := idR_inj hR'
      exact ⟨p1, rfl, fun j hj => by simp; rfl⟩

theorem cCmok : cCm.OK Try.prog G0 := Ctx.OK.addL (c := ⟨[z68], []⟩) (Ctx.OK.nil.addF okz68.1 rfl) okCm.1 rfl

theorem okz47 : EntryOK Try.prog G0 z47 ∧ PostOK z47 post47 := by
  refine cCmok.nm.entryH mixed ev_z47 (by kernel_rfl) _ rfl fun xs hf hp => ?_
  obtain ⟨l, hl, hF⟩ := ctx_P (l0 := cCmn.l)
  show ∃ ρ : Nat → Int, _ ∧ ob_z47.tt cCmn.l.F ρ = true ∧ post47 xs (es_z47.map (E.den cCmn.l.F ρ))
  rw [hl]
  have F368 := FC (k := 100000368) rfl (hF z68.nm (by rfl) (by decide))
  have F9047 := FC (k := 100009047) rfl (hF leCm.nm.ent (by rfl) (by decide))
  replace hf : fits [.x, .x, (.i .i64), (.i .i64)] xs := hf
  obtain ⟨D, xs0, hx0, hD, hf0⟩ := fits_cons hf
  obtain ⟨L, xs1, hx1, hL, hf1⟩ := fits_cons hf0
  obtain ⟨now, xs2, hx2, hnow, hf2⟩ := fits_cons hf1
  obtain ⟨lag, xs3, hx3, hlag, hf3⟩ := fits_cons hf2
  have hxn := fits_nil hf3
  subst hxn hx3 hx2 hx1 hx0
  simp only [norm_i] at hnow hlag
  obtain ⟨ρ, hρ, hd⟩ := solve (F := l.F) 4 defs_z47 (by kernel_rfl) [D, L, now, lag]
  have hDf := dE_tt (by kernel_rfl) hd
  refine ⟨ρ, hρ, ?_⟩
  have r0 : ρ 0 = D := hρ 0 (by decide)
  have r1 : ρ 1 = L := hρ 1 (by decide)
  have r2 : ρ 2 = now := hρ 2 (by decide)
  have r3 : ρ 3 = lag := hρ 3 (by decide)
  obtain ⟨v1, hv1, hd1, hn1⟩ := nmd hd 0 rfl
  obtain ⟨v2, hv2, hd2, hn2⟩ := nmd hd 1 rfl
  simp (disch := omega) only [norm_i, F368, F9047, Ent.nm_fn, r0, r1, r2, hnow, r3, hlag, hv1, hv2, hn2, ewA, ewL, preC, binI, dvI, shI, cmpB, env, bi, List.headD, List.tail, List.map, Nat.reduceAdd, ewR, ewB, ewM, if_true, if_false, implies_true, forall_const, ne_eq, reduceCtorEq, Int.reduceEq, Int.reduceLT, Int.reduceLE, Int.reduceToNat, Int.reduceAdd, Int.reduceSub, Int.reduceMul, Int.reduceNeg, Int.reduceBEq, Nat.reduceLT, Nat.reduceEqDiff] at hd1 hd2
  have hSS := And.intro (And.intro (And.intro F368 (And.intro F9047 r0)) (And.intro r1 (And.intro r2 hnow))) (And.intro (And.intro r3 (And.intro hlag hv1)) (And.intro hv2 (And.intro hn2 hDf)))
  obtain ⟨⟨R, hLR, hlR, hR, hlag⟩, p1, p2⟩ := hp
  replace hLR : dc L = idR R := hLR
  replace p1 : rowsOK intK (dc D) := p1
  replace p2 : ((dc D).length : Int) ≤ 4096 := p2
  replace hlag : 0 < lag ∨ ∀ j, j < (dc D).length → j ∉ R → ¬ (0 < gC (dc D) j 0 ∧ gC (dc D) j 0 ≤ now) := hlag
  have lR : (dc L).length = R.length := by rw [hLR]; exact List.length_map ..
  have wL : IntKind.i64.wrap (((dc L).length : Nat) : Int) = (((dc L).length : Nat) : Int) := i64w (by omega) (by omega)
  simp only [wL] at hd1
  have rL : rowsOK intK (dc L) := by
    rw [hLR]
    intro r hr
    obtain ⟨j, hj, rfl⟩ := List.mem_map.1 hr
    have := (hR.2 j hj).1
    exact ⟨i64w (by omega) (by replace this : j < (dc D).length := this; omega), trivial⟩
  have yp : leCm.ent.pre [D, now, L, (((dc L).length : Nat) : Int), 0] := ⟨⟨R, by show (dc L).drop 0 = idR R; rw [List.drop_zero]; exact hLR, hR⟩, p1, p2, rL, rfl, by show (0 : Int) ≤ 0; decide, by show (0 : Int) ≤ (((dc L).length : Nat) : Int); omega, by show (((dc L).length : Nat) : Int) ≤ 4096; omega⟩
  have q := (PostOK.use (ks := [.x, (.i .i64), .x, (.i .i64), (.i .i64)]) (os := [.x]) (vs := [v1]) okCm.2 rfl rfl ⟨hd1, trivial⟩) ⟨rfl, hnow, rfl, wL, rfl, trivial⟩ yp
  have q2 := q R (by show (dc L).drop 0 = idR R; rw [List.drop_zero]; exact hLR)
  obtain ⟨u1, u2, u3⟩ := q2
  replace u1 : rowsOK intK (dc v1) := u1
  replace u2 : (dc v1).length = (dc D).length := u2
  replace u3 : ∀ j, j < (dc D).length → gC (dc v1) j 0 = if j ∈ R then 0 else gC (dc D) j 0 := u3
  have y68 : z68.pre [v1, now] := ⟨u1, by show ((dc v1).length : Int) ≤ 4096; omega⟩
  have z2 : v2 = b2i (anyDue (dc v1) now) := (PostOK.use (ks := [.x, (.i .i64)]) (os := [.b]) (vs := [v2]) okz68.2 rfl rfl ⟨hd2, trivial⟩) ⟨rfl, hnow, trivial⟩ y68
  have hno : ¬ 0 < lag → v2 = 0 := fun hl => by
    rw [z2]
    have : anyDue (dc v1) now = false := by
      unfold anyDue
      rw [List.any_eq_false]
      intro r hr
      obtain ⟨j, hj, rfl⟩ := List.mem_iff_getElem.1 hr
      have e : ((dc v1)[j]).headD 0 = gC (dc v1) j 0 := by
        have e1 : (dc v1).getD j [] = (dc v1)[j] := by rw [List.getD_eq_getElem?_getD, List.getElem?_eq_getElem hj]; rfl
        unfold gC; rw [e1]
        cases (dc v1)[j] <;> rfl
      rw [e, u3 j (by omega)]
      have h3 := (hlag.resolve_left hl) j (by omega)
      unfold dueB
      by_cases hjR : j ∈ R
      · rw [if_pos hjR]; simp
      · rw [if_neg hjR]
        simp only [Bool.and_eq_true, decide_eq_true_eq]
        exact h3 hjR
    rw [this]; rfl
  refine ⟨?_, ?_⟩
  · simp (disch := omega) only [ob_z47, ewA, ewL, preC, binI, dvI, shI, cmpB, env, bi, List.headD, List.tail, List.map, Nat.reduceAdd, ewR, ewB, ewM, if_true, if_false, implies_true, forall_const, ne_eq, reduceCtorEq, Int.reduceEq, Int.reduceLT, Int.reduceLE, Int.reduceToNat, Int.reduceAdd, Int.reduceSub, Int.reduceMul, Int.reduceNeg, Int.reduceBEq, Nat.reduceLT, Nat.reduceEqDiff, hSS, wL, yp, y68, u2]
    exact fun h => by rw [hno (by omega)]; rfl
  · simp (disch := omega) only [es_z47, ewA, ewL, preC, binI, dvI, shI, cmpB, env, bi, List.headD, List.tail, List.map, Nat.reduceAdd, ewR, ewB, ewM, if_true, if_false, implies_true, forall_const, ne_eq, reduceCtorEq, Int.reduceEq, Int.reduceLT, Int.reduceLE, Int.reduceToNat, Int.reduceAdd, Int.reduceSub, Int.reduceMul, Int.reduceNeg, Int.reduceBEq, Nat.reduceLT, Nat.reduceEqDiff, hSS]
    intro R' hR'
    exact q R' (by show (dc L).drop 0 = idR R'; rw [List.drop_zero]; exact hR')

end
end Go.Proofs.Ytnockichpnaoeaa.Ew
