/- Layer 18: slices.Compact of a list without equal neighbours. -/
import Derived.Test.YtfhheeoejncfgaaKa
import Derived.Test.YtfhheeoejncfgaaRt
import Derived.Test.YtfhheeoejncfgaaHw
set_option linter.unusedVariables false
set_option linter.unusedSimpArgs false
namespace Go.Proofs.Ytfhheeoejncfgaa.Ew
open Go Go.RowKit
noncomputable section
--P Try.prog G0

def e37 : Ent := cloneE 37
theorem ok37 : EntryOK Try.prog G0 e37 := clone_ok G0 37

/-- No neighbours are equal. -/
def neiR (l : RL) : Prop := ∀ i : Nat, i + 1 < l.length → l.getD (i + 1) [] ≠ l.getD i []
def pCo : List Bool := [true,true,false,true,false]
def preCp (xs : List Int) : Prop := rowsOK intK (dc (env xs 0)) ∧ ((dc (env xs 0)).length : Int) ≤ 4096 ∧ neiR (dc (env xs 0))
def preLc (xs : List Int) : Prop := preCp xs ∧ 1 ≤ env xs 1
def muLc (xs : List Int) : Nat := (((dc (env xs 0)).length : Int) - env xs 1).toNat
def lbLc : LEnt := ⟨⟨9039, 999999, [lio, i64], [], [0], .tup [], z0, preLc⟩, [0, 3], [], [3, 4, 5] ++ (List.range 50).map (· + 10), [.ex 0], 61, []⟩
/-- What is never reached. -/
def leDe : LEnt := ⟨⟨8039, 999999, [], [], [], .tup [], z0, fun _ => False⟩, [], [], [], [.nrm], 61, []⟩
def pDe : List Bool := [true,true,false,true,false,false,true,false,false,true,false]
def cCc : Ctx := ⟨[], [(39, pDe, leDe)]⟩
def cCn : Ctx := cCc.nm

def defs_LLc : List (Nat × E) := []
def q_LLc_0 : E := (.and (.cmp .geq (.var (.i .i64) 1) (.lit (.i .i64) 0)) (.cmp .lss (.var (.i .i64) 1) (.app (.i .i64) 0 0 [(.var .x 0)])))
def ob_LLc : E := (.and (.or (.not (.cmp .lss (.var (.i .i64) 1) (.app (.i .i64) 0 0 [(.var .x 0)]))) (.and (.and q_LLc_0 (.and q_LLc_0 (.and (.cmp .geq (.bin .sub .i64 (.var (.i .i64) 1) (.lit (.i .i64) 1)) (.lit (.i .i64) 0)) (.cmp .lss (.bin .sub .i64 (.var (.i .i64) 1) (.lit (.i .i64) 1)) (.app (.i .i64) 0 0 [(.var .x 0)]))))) (.or (.not (.cmp .eql (.app (.i .i64) 0 1 [(.var .x 0), (.var (.i .i64) 1), (.lit .x 0)]) (.app (.i .i64) 0 1 [(.var .x 0), (.bin .sub .i64 (.var (.i .i64) 1) (.lit (.i .i64) 1)), (.lit .x 0)]))) (.app .b 100008039 1000000 [])))) (.or (.not (.cmp .lss (.var (.i .i64) 1) (.app (.i .i64) 0 0 [(.var .x 0)]))) (.app .b 9039 1000000 [(.var .x 0), (.bin .add .i64 (.var (.i .i64) 1) (.lit (.i .i64) 1))])))
def es_LLc : List E := []
def leLc : LEnt := lbLc.fw (fnL lbLc cCn.l ob_LLc es_LLc postN muLc)
theorem ev_LLc : evL Try.prog G0 (tabOf cCn.fs) (evFn Try.prog G0 (tabOf cCn.fs) (ltOf cCn.ls) 40 10) 40 (subL cCn.ls 39 pCo) leLc (bodyAt Try.prog 39 pCo) = some (ob_LLc, es_LLc) := by kernel_rfl

def b39 : Ent := ⟨39, 39, [lio], [], [], lio, z0, preCp⟩
def postCp (xs ys : List Int) : Prop := env ys 0 = env xs 0
def cCq : Ctx := ⟨[], [(39, pCo, leLc)]⟩
def cCqn : Ctx := cCq.nm

def defs_39 : List (Nat × E) := []
def ob_39 : E := (.or (.cmp .lss (.app (.i .i64) 0 0 [(.var .x 0)]) (.lit (.i .i64) 2)) (.app .b 100009039 1000000 [(.var .x 0), (.lit (.i .i64) 1)]))
def es_39 : List E := [(.var .x 0)]
def e39 : Ent := b39.fw (fnR cCqn.l.F b39.np ob_39 es_39 postCp)
theorem ev_39 : evE Try.prog G0 (tabOf cCqn.fs) (ltOf cCqn.ls) 40 10 e39 = some (ob_39, es_39) := by kernel_rfl

theorem okDe : ItemOK Try.prog G0 39 pDe leDe := fun xs hf hp => absurd hp id
theorem cCcok : cCc.OK Try.prog G0 := Ctx.OK.addL (c := ⟨[], []⟩) Ctx.OK.nil okDe rfl

theorem okLc : ItemOK Try.prog G0 39 pCo leLc ∧ PostOK leLc.ent postN := by
  refine cCcok.nm.loopH mixed rfl ⟨_, _, _, Try.func39, rfl, rfl⟩ ev_LLc (by kernel_rfl) _ rfl fun xs hf hp φ hφ => ?_
  obtain ⟨l, hl, hS, hF⟩ := self_H lbLc φ muLc (muLc xs) cCn.l (by decide)
  show ∃ ρ : Nat → Int, _ ∧ ob_LLc.tt (Tabs.F (enH lbLc φ muLc (muLc xs) :: cCn.l)) ρ = true ∧ postN xs (es_LLc.map (E.den (Tabs.F (enH lbLc φ muLc (muLc xs) :: cCn.l)) ρ))
  rw [hl]
  replace hφ : ∀ ys, fits [.x, (.i .i64)] ys → lbLc.ent.pre ys → muLc ys < muLc xs → postN ys (outsE φ ys 0 lbLc.ent.oks) := hφ
  have F9039 := FC (k := 9039) rfl hS
  have F8039 := FC (k := 100008039) rfl (hF leDe.nm.ent (by rfl) (by decide) (by decide))
  replace hf : fits [.x, (.i .i64)] xs := hf
  obtain ⟨L, xs0, hx0, hL, hf0⟩ := fits_cons hf
  obtain ⟨i, xs1, hx1, hi, hf1⟩ := fits_cons hf0
  have hxn := fits_nil hf1
  subst hxn hx1 hx0
  simp only [norm_i] at hi
  obtain ⟨ρ, hρ⟩ : ∃ ρ : Nat → Int, ∀ i_, i_ < 2 → ρ i_ = env [L, i] i_ := ⟨env [L, i], fun _ _ => rfl⟩
  refine ⟨ρ, hρ, ?_⟩
  have r0 : ρ 0 = L := hρ 0 (by decide)
  have r1 : ρ 1 = i := hρ 1 (by decide)
  have hSS := And.intro (And.intro F9039 F8039) (And.intro r0 (And.intro r1 hi))
  obtain ⟨⟨p1, p2, p3⟩, p4⟩ := hp
  replace p1 : rowsOK intK (dc L) := p1
  replace p3 : neiR (dc L) := p3
  simp only [ewA, ewL, preC, binI, dvI, shI, cmpB, env, bi, List.headD, List.tail, List.map, Nat.reduceAdd] at p2 p4
  by_cases hc : i < ((dc L).length : Int)
  · obtain ⟨r, er, hr, _, _⟩ := row_at p1 (i := i) (by omega) (by omega)
    obtain ⟨a, r1, rfl, ha, hr⟩ := fits_cons hr
    obtain rfl := fits_nil hr
    obtain ⟨s, es, hs, _, _⟩ := row_at p1 (i := i - 1) (by omega) (by omega)
    obtain ⟨b, s1, rfl, hb, hs⟩ := fits_cons hs
    obtain rfl := fits_nil hs
    simp only [norm_i] at ha hb
    have hn := p3 (i - 1).toNat (by omega)
    rw [show (i - 1).toNat + 1 = i.toNat by omega, er, es] at hn
    have hab : ¬ a = b := fun e => hn (by rw [e])
    have yp : lbLc.ent.pre [L, i + 1] := ⟨⟨p1, p2, p3⟩, by show 1 ≤ i + 1; omega⟩
    have ym : muLc [L, i + 1] < muLc [L, i] := by show (((dc L).length : Int) - (i + 1)).toNat < (((dc L).length : Int) - i).toNat; omega
    refine ⟨?_, trivial⟩
    simp (disch := omega) only [ob_LLc, q_LLc_0, ewA, ewL, preC, binI, dvI, shI, cmpB, env, bi, List.headD, List.tail, List.map, Nat.reduceAdd, ewR, ewB, ewM, if_true, if_false, implies_true, forall_const, ne_eq, reduceCtorEq, Int.reduceEq, Int.reduceLT, Int.reduceLE, Int.reduceToNat, Int.reduceAdd, Int.reduceSub, Int.reduceMul, Int.reduceNeg, Int.reduceBEq, Nat.reduceLT, Nat.reduceEqDiff, hSS, hc, er, es, ha, hb, hab]
    repeat' (first | (with_reducible apply And.intro) | (with_reducible intro _))
    all_goals first | with_reducible assumption | trivial | omega | (split <;> omega)
  · refine ⟨?_, trivial⟩
    simp (disch := omega) only [ob_LLc, q_LLc_0, ewA, ewL, preC, binI, dvI, shI, cmpB, env, bi, List.headD, List.tail, List.map, Nat.reduceAdd, ewR, ewB, ewM, if_true, if_false, implies_true, forall_const, ne_eq, reduceCtorEq, Int.reduceEq, Int.reduceLT, Int.reduceLE, Int.reduceToNat, Int.reduceAdd, Int.reduceSub, Int.reduceMul, Int.reduceNeg, Int.reduceBEq, Nat.reduceLT, Nat.reduceEqDiff, hSS, hc]

theorem cCqok : cCq.OK Try.prog G0 := Ctx.OK.addL (c := ⟨[], []⟩) Ctx.OK.nil okLc.1 rfl
theorem ok39 : EntryOK Try.prog G0 e39 ∧ PostOK e39 postCp := by
  refine cCqok.nm.entryH mixed ev_39 (by kernel_rfl) _ rfl fun xs hf hp => ?_
  obtain ⟨l, hl, hF⟩ := ctx_P (l0 := cCqn.l)
  show ∃ ρ : Nat → Int, _ ∧ ob_39.tt cCqn.l.F ρ = true ∧ postCp xs (es_39.map (E.den cCqn.l.F ρ))
  rw [hl]
  have F9039 := FC (k := 100009039) rfl (hF leLc.nm.ent (by rfl) (by decide))
  replace hf : fits [.x] xs := hf
  obtain ⟨L, xs0, hx0, hL, hf0⟩ := fits_cons hf
  have hxn := fits_nil hf0
  subst hxn hx0
  obtain ⟨ρ, hρ⟩ : ∃ ρ : Nat → Int, ∀ i_, i_ < 1 → ρ i_ = env [L] i_ := ⟨env [L], fun _ _ => rfl⟩
  refine ⟨ρ, hρ, ?_⟩
  have r0 : ρ 0 = L := hρ 0 (by decide)
  have hSS := And.intro F9039 r0
  obtain ⟨p1, p2, p3⟩ := hp
  replace p1 : rowsOK intK (dc L) := p1
  replace p3 : neiR (dc L) := p3
  simp only [ewA, ewL, preC, binI, dvI, shI, cmpB, env, bi, List.headD, List.tail, List.map, Nat.reduceAdd] at p2
  have yp : leLc.ent.pre [L, 1] := ⟨⟨p1, p2, p3⟩, by show (1 : Int) ≤ 1; decide⟩
  refine ⟨?_, ?_⟩
  · simp (disch := omega) only [ob_39, ewA, ewL, preC, binI, dvI, shI, cmpB, env, bi, List.headD, List.tail, List.map, Nat.reduceAdd, ewR, ewB, ewM, if_true, if_false, implies_true, forall_const, ne_eq, reduceCtorEq, Int.reduceEq, Int.reduceLT, Int.reduceLE, Int.reduceToNat, Int.reduceAdd, Int.reduceSub, Int.reduceMul, Int.reduceNeg, Int.reduceBEq, Nat.reduceLT, Nat.reduceEqDiff, hSS]
    exact fun _ => yp
  · simp (disch := omega) only [es_39, ewA, ewL, preC, binI, dvI, shI, cmpB, env, bi, List.headD, List.tail, List.map, Nat.reduceAdd, ewR, ewB, ewM, if_true, if_false, implies_true, forall_const, ne_eq, reduceCtorEq, Int.reduceEq, Int.reduceLT, Int.reduceLE, Int.reduceToNat, Int.reduceAdd, Int.reduceSub, Int.reduceMul, Int.reduceNeg, Int.reduceBEq, Nat.reduceLT, Nat.reduceEqDiff, hSS]
    rfl

end
end Go.Proofs.Ytfhheeoejncfgaa.Ew
