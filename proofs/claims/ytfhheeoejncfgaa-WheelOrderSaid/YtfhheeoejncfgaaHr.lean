/- Layer 18: a wheel after some acts: made. WheelPlaces. -/
import Derived.Test.YtfhheeoejncfgaaHq
set_option linter.unusedVariables false
set_option linter.unusedSimpArgs false
namespace Go.Proofs.Ytfhheeoejncfgaa.Ew
open Go Go.RowKit
noncomputable section
--P Try.prog G0

def b28 : Ent := ⟨28, 28, [numS, acts], [], [0], .tup [wsh, .lt .b 1], z0, preA4⟩
/-- A wheel of the capacity and the budget of the numbers; its time is past theirs. -/
def post28 (xs ys : List Int) : Prop := WE (env ys 0) (env ys 1) (env ys 2) (env ys 3) (env ys 4) (env ys 5) (capF xs) ∧ (nowF xs ≤ env ys 1 ∧ env ys 1 ≤ nowF xs + 9000) ∧ env ys 2 = budF xs ∧ (0 ≤ env ys 4 ∧ env ys 4 ≤ 36864000)
def cV : Ctx := ⟨[e23], [(28, pAr, leMd)]⟩
def cVn : Ctx := cV.nm

def a_28_0 : List E := [(.var (.i .u8) 0), (.var (.i .u8) 1), (.var (.i .i64) 2), (.var (.i .i64) 3)]
def a_28_1 : List E := [(.var .x 640000147200576), (.var (.i .i64) 640000147200577), (.var (.i .i64) 640000147200578), (.var (.i .i64) 640000147200579), (.var (.i .i64) 640000147200580), (.var .x 640000147200581), (.var (.i .i64) 640000147200582), (.app .x 0 5 [(.var .x 4), (.lit (.i .i64) 0), (.ite (.cmp .lss (.lit (.i .i64) 30) (.app (.i .i64) 0 0 [(.var .x 4)])) (.lit (.i .i64) 30) (.app (.i .i64) 0 0 [(.var .x 4)]))]), (.app (.i .i64) 0 0 [(.app .x 0 5 [(.var .x 4), (.lit (.i .i64) 0), (.ite (.cmp .lss (.lit (.i .i64) 30) (.app (.i .i64) 0 0 [(.var .x 4)])) (.lit (.i .i64) 30) (.app (.i .i64) 0 0 [(.var .x 4)]))])]), (.lit (.i .i64) 0)]
def defs_28 : List (Nat × E) := [(640000147200576, (.app .x 100000023 0 a_28_0)),
  (640000147200577, (.app (.i .i64) 100000023 1 a_28_0)),
  (640000147200578, (.app (.i .i64) 100000023 2 a_28_0)),
  (640000147200579, (.app (.i .i64) 100000023 3 a_28_0)),
  (640000147200580, (.app (.i .i64) 100000023 4 a_28_0)),
  (640000147200581, (.app .x 100000023 5 a_28_0)),
  (640000147200582, (.app (.i .i64) 100000023 6 a_28_0)),
  (640000147200583, (.app (.i .i64) 100000023 7 a_28_0)),
  (640057779201600, (.app .x 100009028 0 a_28_1)),
  (640057779201601, (.app (.i .i64) 100009028 1 a_28_1)),
  (640057779201602, (.app (.i .i64) 100009028 2 a_28_1)),
  (640057779201603, (.app (.i .i64) 100009028 3 a_28_1)),
  (640057779201604, (.app (.i .i64) 100009028 4 a_28_1)),
  (640057779201605, (.app .x 100009028 5 a_28_1))]
def q_28_0 : E := (.ite (.cmp .lss (.lit (.i .i64) 30) (.app (.i .i64) 0 0 [(.var .x 4)])) (.lit (.i .i64) 30) (.app (.i .i64) 0 0 [(.var .x 4)]))
def q_28_1 : E := (.app .x 0 5 [(.var .x 4), (.lit (.i .i64) 0), q_28_0])
def ob_28 : E := (.and (.and (.app .b 100000023 1000000 [(.var (.i .u8) 0), (.var (.i .u8) 1), (.var (.i .i64) 2), (.var (.i .i64) 3)]) (dE defs_28 0 8)) (.and (.and (.cmp .leq (.lit (.i .i64) 0) q_28_0) (.cmp .leq q_28_0 (.app (.i .i64) 0 0 [(.var .x 4)]))) (.and (.app .b 100009028 1000000 [(.var .x 640000147200576), (.var (.i .i64) 640000147200577), (.var (.i .i64) 640000147200578), (.var (.i .i64) 640000147200579), (.var (.i .i64) 640000147200580), (.var .x 640000147200581), (.var (.i .i64) 640000147200582), q_28_1, (.app (.i .i64) 0 0 [q_28_1]), (.lit (.i .i64) 0)]) (dE defs_28 8 6))))
def es_28 : List E := [(.var .x 640057779201600), (.var (.i .i64) 640057779201601), (.var (.i .i64) 640057779201602), (.var (.i .i64) 640057779201603), (.var (.i .i64) 640057779201604), (.var .x 640057779201605)]
def e28 : Ent := b28.fw (fnR cVn.l.F b28.np ob_28 es_28 post28)
theorem ev_28 : evE Try.prog G0 (tabOf cVn.fs) (ltOf cVn.ls) 40 10 e28 = some (ob_28, es_28) := by kernel_rfl

def pPl : List Bool := [true,true,true,true,true,true,false,true,false]
/-- The timers below an ID that there are. -/
def cntT (T : RL) (i : Int) : Int := (cnt i.toNat (fun j => decide (0 < gC T j 4)) : Nat)
def prePl (xs : List Int) : Prop := WE (env xs 0) (env xs 1) (env xs 2) (env xs 3) (env xs 4) (env xs 5) (env xs 7) ∧ env xs 6 = cntT (TW xs) (env xs 8) ∧ 0 ≤ env xs 8 ∧ env xs 8 ≤ env xs 7
def postPl (xs ys : List Int) : Prop := env ys 0 = cntT (TW xs) (env xs 7)
def muPl (xs : List Int) : Nat := (env xs 7 - env xs 8).toNat
def lbPl : LEnt := ⟨⟨9005, 999999, [wsh, i64, i64, i64], [], [0, 1], .tup [i64], z0, prePl⟩, [5, 10, 34, 35], [10], (List.range 7).map (· + 11) ++ (List.range 88).map (· + 35), [.ex 0], 127, []⟩
def cW : Ctx := ⟨[e18, e29, e30], []⟩
def cWn : Ctx := cW.nm

def a_LPl_0 : List E := [(.var .x 0), (.var (.i .i64) 1), (.var (.i .i64) 2), (.var (.i .i64) 3), (.var (.i .i64) 4), (.var .x 5), (.var (.i .i64) 8)]
def defs_LPl : List (Nat × E) := [(640000185608256, (.app (.i .i64) 100000029 0 a_LPl_0)),
  (640000185608257, (.app .b 100000029 1 a_LPl_0)),
  (640000192008256, (.app (.i .i64) 100000030 0 a_LPl_0)),
  (640000192008257, (.app (.i .i64) 100000030 1 a_LPl_0)),
  (640000192008258, (.app (.i .i64) 100000030 2 a_LPl_0)),
  (640000115208256, (.app (.i .i64) 100000018 0 [(.var .x 0), (.var (.i .i64) 1), (.var (.i .i64) 2), (.var (.i .i64) 3), (.var (.i .i64) 4), (.var .x 5)]))]
def q_LPl_0 : E := (.and (.app .b 100000018 1000000 [(.var .x 0), (.var (.i .i64) 1), (.var (.i .i64) 2), (.var (.i .i64) 3), (.var (.i .i64) 4), (.var .x 5)]) (dE defs_LPl 5 1))
def q_LPl_1 : E := (.cmp .leq (.var (.i .i64) 640000185608256) (.var (.i .i64) 640000115208256))
def q_LPl_2 : E := (.or (.or (.cmp .neq (.var (.i .i64) 640000192008258) (.lit (.i .i64) 0)) (.cmp .lss (.var (.i .i64) 640000192008256) (.lit (.i .i64) 0))) (.cmp .geq (.var (.i .i64) 640000192008256) (.lit (.i .i64) 4)))
def q_LPl_3 : E := (.bin .sub .i64 (.sh .shr .i64 (.var (.i .i64) 640000185608256) (.lit (.i .u64) 8)) (.sh .shr .i64 (.var (.i .i64) 640000115208256) (.lit (.i .u64) 8)))
def q_LPl_4 : E := (.or (.or q_LPl_2 (.cmp .neq (.var (.i .i64) 640000192008257) (.dv .rem .i64 (.sh .shr .i64 (.var (.i .i64) 640000185608256) (.bin .mul .i64 (.lit (.i .i64) 8) (.var (.i .i64) 640000192008256))) 512))) (.and (.cmp .eql q_LPl_3 (.lit (.i .i64) 0)) (.cmp .neq (.var (.i .i64) 640000192008256) (.lit (.i .i64) 0))))
def q_LPl_5 : E := (.cmp .eql q_LPl_3 (.lit (.i .i64) 1))
def q_LPl_6 : E := (.not q_LPl_1)
def q_LPl_7 : E := (.or (.or q_LPl_4 (.and (.and q_LPl_5 (.cmp .eql (.dv .rem .i64 (.var (.i .i64) 640000115208256) 256) (.lit (.i .i64) 255))) (.cmp .neq (.var (.i .i64) 640000192008256) (.lit (.i .i64) 0)))) (.and (.cmp .gtr q_LPl_3 (.lit (.i .i64) 1)) (.cmp .eql (.var (.i .i64) 640000192008256) (.lit (.i .i64) 0))))
def q_LPl_8 : E := (.or (.cmp .neq (.var (.i .i64) 640000192008258) (.lit (.i .i64) 6)) (.cmp .neq (.var (.i .i64) 640000185608256) (.lit (.i .i64) 0)))
def q_LPl_9 : E := (.and (.not (.var .b 640000185608257)) (.not q_LPl_8))
def q_LPl_10 : E := (.or q_LPl_9 (.and (.var .b 640000185608257) (.and q_LPl_1 (.not (.cmp .neq (.var (.i .i64) 640000192008258) (.lit (.i .i64) 6))))))
def q_LPl_11 : E := (.ite q_LPl_10 (.bin .add .i64 (.var (.i .i64) 6) (.ite q_LPl_9 (.lit (.i .i64) 0) (.lit (.i .i64) 1))) (.bin .add .i64 (.var (.i .i64) 6) (.lit (.i .i64) 1)))
def ob_LPl : E := (.and (.and (.or (.not (.cmp .lss (.var (.i .i64) 8) (.var (.i .i64) 7))) (.and (.and (.app .b 100000029 1000000 [(.var .x 0), (.var (.i .i64) 1), (.var (.i .i64) 2), (.var (.i .i64) 3), (.var (.i .i64) 4), (.var .x 5), (.var (.i .i64) 8)]) (dE defs_LPl 0 2)) (.and (.and (.app .b 100000030 1000000 [(.var .x 0), (.var (.i .i64) 1), (.var (.i .i64) 2), (.var (.i .i64) 3), (.var (.i .i64) 4), (.var .x 5), (.var (.i .i64) 8)]) (dE defs_LPl 2 3)) (.or (.not (.var .b 640000185608257)) (.and q_LPl_0 (.or q_LPl_1 (.and q_LPl_0 (.and (.or q_LPl_2 (.cmp .geq (.bin .mul .i64 (.lit (.i .i64) 8) (.var (.i .i64) 640000192008256)) (.lit (.i .i64) 0))) (.or (.not (.and (.not q_LPl_4) q_LPl_5)) q_LPl_0))))))))) (.or (.not (.and (.cmp .lss (.var (.i .i64) 8) (.var (.i .i64) 7)) (.or (.and (.var .b 640000185608257) (.and q_LPl_6 (.not q_LPl_7))) q_LPl_10))) (.app .b 9005 1000000 [(.var .x 0), (.var (.i .i64) 1), (.var (.i .i64) 2), (.var (.i .i64) 3), (.var (.i .i64) 4), (.var .x 5), q_LPl_11, (.var (.i .i64) 7), (.bin .add .i64 (.var (.i .i64) 8) (.lit (.i .i64) 1))]))) (.not (.and (.cmp .lss (.var (.i .i64) 8) (.var (.i .i64) 7)) (.or (.and (.not (.var .b 640000185608257)) q_LPl_8) (.and (.var .b 640000185608257) (.or (.and q_LPl_1 (.cmp .neq (.var (.i .i64) 640000192008258) (.lit (.i .i64) 6))) (.and q_LPl_6 q_LPl_7)))))))
def es_LPl : List E := [(.ite (.not (.cmp .lss (.var (.i .i64) 8) (.var (.i .i64) 7))) (.var (.i .i64) 6) (.app (.i .i64) 9005 0 [(.var .x 0), (.var (.i .i64) 1), (.var (.i .i64) 2), (.var (.i .i64) 3), (.var (.i .i64) 4), (.var .x 5), q_LPl_11, (.var (.i .i64) 7), (.bin .add .i64 (.var (.i .i64) 8) (.lit (.i .i64) 1))]))]
def lePl : LEnt := lbPl.fw (fnL lbPl cWn.l ob_LPl es_LPl postPl muPl)
theorem ev_LPl : evL Try.prog G0 (tabOf cWn.fs) (evFn Try.prog G0 (tabOf cWn.fs) (ltOf cWn.ls) 40 10) 40 (subL cWn.ls 5 pPl) lePl (bodyAt Try.prog 5 pPl) = some (ob_LPl, es_LPl) := by kernel_rfl

theorem cVok : cV.OK Try.prog G0 := Ctx.OK.addL (c := ⟨[e23], []⟩) (Ctx.OK.nil.addF ok23 rfl) okM2.1 rfl

set_option maxHeartbeats 4000000 in
theorem ok28 : EntryOK Try.prog G0 e28 ∧ PostOK e28 post28 := by
  refine cVok.nm.entryH mixed ev_28 (by kernel_rfl) _ rfl fun xs hf hp => ?_
  obtain ⟨l, hl, hF⟩ := ctx_P (l0 := cVn.l)
  show ∃ ρ : Nat → Int, _ ∧ ob_28.tt cVn.l.F ρ = true ∧ post28 xs (es_28.map (E.den cVn.l.F ρ))
  rw [hl]
  have F23 := FC (k := 100000023) rfl (hF e23.nm (by rfl) (by decide))
  have F9028 := FC (k := 100009028) rfl (hF leMd.nm.ent (by rfl) (by decide))
  replace hf : fits [(.i .u8), (.i .u8), (.i .i64), (.i .i64), .x] xs := hf
  obtain ⟨nb, xs0, hx0, hnb, hf0⟩ := fits_cons hf
  obtain ⟨ns, xs1, hx1, hns, hf1⟩ := fits_cons hf0
  obtain ⟨nn, xs2, hx2, hnn, hf2⟩ := fits_cons hf1
  obtain ⟨nc, xs3, hx3, hnc, hf3⟩ := fits_cons hf2
  obtain ⟨A, xs4, hx4, hA, hf4⟩ := fits_cons hf3
  have hxn := fits_nil hf4
  subst hxn hx4 hx3 hx2 hx1 hx0
  simp only [norm_i] at hnb hns hnn hnc
  obtain ⟨ρ, hρ, hd⟩ := solve (F := l.F) 5 defs_28 (by kernel_rfl) [nb, ns, nn, nc, A]
  have hDf := dE_tt (by kernel_rfl) hd
  refine ⟨ρ, hρ, ?_⟩
  have r0 : ρ 0 = nb := hρ 0 (by decide)
  have r1 : ρ 1 = ns := hρ 1 (by decide)
  have r2 : ρ 2 = nn := hρ 2 (by decide)
  have r3 : ρ 3 = nc := hρ 3 (by decide)
  have r4 : ρ 4 = A := hρ 4 (by decide)
  obtain ⟨v1, hv1, hd1, hn1⟩ := nmd hd 0 rfl
  obtain ⟨v2, hv2, hd2, hn2⟩ := nmd hd 1 rfl
  obtain ⟨v3, hv3, hd3, hn3⟩ := nmd hd 2 rfl
  obtain ⟨v4, hv4, hd4, hn4⟩ := nmd hd 3 rfl
  obtain ⟨v5, hv5, hd5, hn5⟩ := nmd hd 4 rfl
  obtain ⟨v6, hv6, hd6, hn6⟩ := nmd hd 5 rfl
  obtain ⟨v7, hv7, hd7, hn7⟩ := nmd hd 6 rfl
  obtain ⟨v8, hv8, hd8, hn8⟩ := nmd hd 7 rfl
  obtain ⟨v9, hv9, hd9, hn9⟩ := nmd hd 8 rfl
  obtain ⟨v10, hv10, hd10, hn10⟩ := nmd hd 9 rfl
  obtain ⟨v11, hv11, hd11, hn11⟩ := nmd hd 10 rfl
  obtain ⟨v12, hv12, hd12, hn12⟩ := nmd hd 11 rfl
  obtain ⟨v13, hv13, hd13, hn13⟩ := nmd hd 12 rfl
  obtain ⟨v14, hv14, hd14, hn14⟩ := nmd hd 13 rfl
  simp only [norm_i] at hn2 hn3 hn4 hn5 hn7 hn8 hn10 hn11 hn12 hn13
  simp (disch := omega) only [norm_i, a_28_0, a_28_1, F23, F9028, Ent.nm_fn, r0, hnb, r1, hns, r2, hnn, r3, hnc, r4, hv1, hv2, hn2, hv3, hn3, hv4, hn4, hv5, hn5, hv6, hv7, hn7, hv8, hn8, hv9, hv10, hn10, hv11, hn11, hv12, hn12, hv13, hn13, hv14, ewA, ewL, preC, binI, dvI, shI, cmpB, env, bi, List.headD, List.tail, List.map, Nat.reduceAdd, ewR, ewB, ewM, if_true, if_false, implies_true, forall_const, ne_eq, reduceCtorEq, Int.reduceEq, Int.reduceLT, Int.reduceLE, Int.reduceToNat, Int.reduceAdd, Int.reduceSub, Int.reduceMul, Int.reduceNeg, Int.reduceBEq, Nat.reduceLT, Nat.reduceEqDiff] at hd1 hd2 hd3 hd4 hd5 hd6 hd7 hd8 hd9 hd10 hd11 hd12 hd13 hd14
  have hSS := And.intro (And.intro (And.intro (And.intro (And.intro F23 F9028) (And.intro r0 hnb)) (And.intro (And.intro r1 hns) (And.intro r2 (And.intro hnn r3)))) (And.intro (And.intro (And.intro hnc r4) (And.intro hv1 hv2)) (And.intro (And.intro hn2 hv3) (And.intro hn3 (And.intro hv4 hn4))))) (And.intro (And.intro (And.intro (And.intro hv5 hn5) (And.intro hv6 hv7)) (And.intro (And.intro hn7 hv8) (And.intro hn8 (And.intro hv9 hv10)))) (And.intro (And.intro (And.intro hn10 hv11) (And.intro hn11 hv12)) (And.intro (And.intro hn12 hv13) (And.intro hn13 (And.intro hv14 hDf)))))
  obtain ⟨p1, p2⟩ := hp
  replace p1 : rowsOK actK (dc A) := p1
  replace p2 : ((dc A).length : Int) ≤ 9223372036854775807 := p2
  have rs := u8r hns
  obtain ⟨q1, q2, q3, q4, q5, q6, q7, q8, q9, q10, q11⟩ := WV.fresh rs.1 ⟨hd1, hd2, hd3, hd4, hd5, hd6, hd7, hd8, trivial⟩
  have wA : IntKind.i64.wrap (((dc A).length : Nat) : Int) = (((dc A).length : Nat) : Int) := i64w (by omega) (by omega)
  obtain ⟨t, ht⟩ : ∃ t : Nat, (if 30 < (((dc A).length : Nat) : Int) then 30 else (((dc A).length : Nat) : Int)).toNat = t := ⟨_, rfl⟩
  have ht2 : t ≤ 30 ∧ t ≤ (dc A).length := by rw [← ht]; split <;> omega
  obtain ⟨A', hA⟩ : ∃ A', A' = cd (List.take t (dc A)) := ⟨_, rfl⟩
  have dA : dc A' = List.take t (dc A) := by rw [hA]; exact dc_cd _
  have lA : (List.take t (dc A)).length = t := by rw [List.length_take]; omega
  have wt : IntKind.i64.wrap ((t : Nat) : Int) = (t : Int) := i64w (by omega) (by omega)
  simp only [wA, ht, ← hA, lA, wt] at hd9 hd10 hd11 hd12 hd13 hd14
  have yp : leMd.ent.pre [v1, v2, v3, v4, v5, v6, v7, A', (t : Int), 0] := by
    refine ⟨⟨_, _, q1⟩, ?_, ?_, by show v5 + 1228800 * ((t : Int) - 0) ≤ _; omega, by show (0 : Int) ≤ 0; decide, by show (0 : Int) ≤ (t : Int); omega, by show (t : Int) ≤ 30; omega⟩
    · show rowsOK actK (dc A')
      rw [dA]; exact fun r hr => p1 r (List.mem_of_mem_take hr)
    · show (t : Int) = ((dc A').length : Int)
      rw [dA, lA]
  have q := (PostOK.use (ks := [.x, (.i .i64), (.i .i64), (.i .i64), (.i .i64), .x, (.i .i64), .x, (.i .i64), (.i .i64)]) (os := [.x, (.i .i64), (.i .i64), (.i .i64), (.i .i64), .x]) (vs := [v9, v10, v11, v12, v13, v14]) okM2.2 rfl rfl ⟨hd9, hd10, hd11, hd12, hd13, hd14, trivial⟩) ⟨rfl, hn2, hn3, hn4, hn5, rfl, hn7, rfl, wt, rfl, trivial⟩ yp
  obtain ⟨i1, i2, i3, i4⟩ := q
  replace i2 : v2 ≤ v10 ∧ v10 ≤ v2 + 300 * ((t : Int) - 0) := i2
  replace i3 : v11 = v3 := i3
  replace i4 : v5 ≤ v13 ∧ v13 ≤ v5 + 1228800 * ((t : Int) - 0) := i4
  refine ⟨?_, ?_⟩
  · simp (disch := omega) only [ob_28, q_28_0, q_28_1, ewA, ewL, preC, binI, dvI, shI, cmpB, env, bi, List.headD, List.tail, List.map, Nat.reduceAdd, ewR, ewB, ewM, if_true, if_false, implies_true, forall_const, ne_eq, reduceCtorEq, Int.reduceEq, Int.reduceLT, Int.reduceLE, Int.reduceToNat, Int.reduceAdd, Int.reduceSub, Int.reduceMul, Int.reduceNeg, Int.reduceBEq, Nat.reduceLT, Nat.reduceEqDiff, hSS, wA, ht, ← hA, dA, lA, wt]
    have y23 : e23.pre [nb, ns, nn, nc] := trivial
    repeat' (first | (with_reducible apply And.intro) | (with_reducible intro _))
    all_goals first | with_reducible assumption | trivial | omega | (split <;> omega)
  · simp (disch := omega) only [es_28, q_28_0, q_28_1, ewA, ewL, preC, binI, dvI, shI, cmpB, env, bi, List.headD, List.tail, List.map, Nat.reduceAdd, ewR, ewB, ewM, if_true, if_false, implies_true, forall_const, ne_eq, reduceCtorEq, Int.reduceEq, Int.reduceLT, Int.reduceLE, Int.reduceToNat, Int.reduceAdd, Int.reduceSub, Int.reduceMul, Int.reduceNeg, Int.reduceBEq, Nat.reduceLT, Nat.reduceEqDiff, hSS]
    refine ⟨by rw [q6] at i1; exact i1, ?_, i3.trans q3, ?_⟩
    · show nowF [nb, ns, nn, nc] ≤ v10 ∧ v10 ≤ nowF [nb, ns, nn, nc] + 9000
      omega
    · show 0 ≤ v13 ∧ v13 ≤ 36864000
      omega

theorem shr_blk {lv x : Int} (h : 0 ≤ lv ∧ lv ≤ 3) : x.fdiv (2 ^ min (8 * lv).toNat IntKind.i64.bits) = blk lv x := by
  have hpow : (256 : Int) ^ lv.toNat = 2 ^ (8 * lv).toNat := by
    rw [show (8 * lv).toNat = 8 * lv.toNat by omega, Int.pow_mul]; rfl
  rw [show min (8 * lv).toNat IntKind.i64.bits = (8 * lv).toNat by simp only [IntKind.bits]; omega, Int.fdiv_eq_ediv_of_nonneg _ (Int.le_of_lt (Int.pow_pos (by decide))), blk, hpow]
/-- Where an armed timer is. -/
theorem WV.places {S now bu le mo T c : Int} {d : Nat → Int} {B : List Nat} (h : WV S now bu le mo T c d B) {i : Nat} (hi : (i : Int) < c) (hd : now < d i) :
    (0 ≤ gC (dc T) i 0 ∧ gC (dc T) i 0 ≤ 3) ∧ gC (dc T) i 1 = blk (gC (dc T) i 0) (d i) % 512 ∧ (d i / 256 - now / 256 = 0 → gC (dc T) i 0 = 0) ∧ (d i / 256 - now / 256 = 1 → now % 256 = 255 → gC (dc T) i 0 = 0) ∧ (1 < d i / 256 - now / 256 → gC (dc T) i 0 ≠ 0) := by
  obtain ⟨Q, ok, _⟩ := h.ok
  have hc := h.cp
  have hil : i < (dc T).length := by omega
  have e := h.dl i hi
  obtain ⟨p1, p2, p3, p4⟩ := ok.pl i hil (by omega)
  have hno := fun hb => ok.noWait (i := i) hb hil
  rw [e] at p2 p3 p4
  refine ⟨p1, p2, fun h1 => ?_, fun h1 h2 => ?_, fun h1 h2 => ?_⟩
  · have : gC (dc T) i 0 = 0 ∨ gC (dc T) i 0 = 1 ∨ gC (dc T) i 0 = 2 ∨ gC (dc T) i 0 = 3 := by omega
    rcases this with g | g | g | g <;> rw [g] at p3 ⊢ <;> simp only [blk1, blk2, blk3] at p3 <;> omega
  · have hw := hno h2
    have : gC (dc T) i 0 = 0 ∨ gC (dc T) i 0 = 1 ∨ gC (dc T) i 0 = 2 ∨ gC (dc T) i 0 = 3 := by omega
    rw [← Bool.not_eq_true, waits_iff, e] at hw
    rcases this with g | g | g | g <;> rw [g] at p3 hw ⊢ <;> simp only [blk1, blk2, blk3] at p3 hw <;> omega
  · rw [h2] at p4
    simp only [blk1, Int.zero_add] at p4
    omega
theorem cntT_succ {T : RL} {i : Int} (h : 0 ≤ i) : cntT T (i + 1) = cntT T i + (if 0 < gC T i.toNat 4 then 1 else 0) := by
  unfold cntT
  rw [show (i + 1).toNat = i.toNat + 1 by omega, cnt_succ]
  by_cases hz : 0 < gC T i.toNat 4 <;> simp [hz]
theorem cntT_rng (T : RL) {i : Int} (h : 0 ≤ i) : 0 ≤ cntT T i ∧ cntT T i ≤ i := by
  unfold cntT
  have := cnt_le (fun j => decide (0 < gC T j 4)) i.toNat
  omega
theorem cWok : cW.OK Try.prog G0 := ((Ctx.OK.nil.addF ok30 rfl).addF ok29 rfl).addF ok18 rfl

set_option maxHeartbeats 4000000 in
theorem okPl : ItemOK Try.prog G0 5 pPl lePl ∧ PostOK lePl.ent postPl := by
  refine cWok.nm.loopH mixed rfl ⟨_, _, _, Try.func5, rfl, rfl⟩ ev_LPl (by kernel_rfl) _ rfl fun xs hf hp φ hφ => ?_
  obtain ⟨l, hl, hS, hF⟩ := self_H lbPl φ muPl (muPl xs) cWn.l (by decide)
  show ∃ ρ : Nat → Int, _ ∧ ob_LPl.tt (Tabs.F (enH lbPl φ muPl (muPl xs) :: cWn.l)) ρ = true ∧ postPl xs (es_LPl.map (E.den (Tabs.F (enH lbPl φ muPl (muPl xs) :: cWn.l)) ρ))
  rw [hl]
  replace hφ : ∀ ys, fits [.x, (.i .i64), (.i .i64), (.i .i64), (.i .i64), .x, (.i .i64), (.i .i64), (.i .i64)] ys → lbPl.ent.pre ys → muPl ys < muPl xs → postPl ys (outsE φ ys 0 lbPl.ent.oks) := hφ
  have F9005 := FC (k := 9005) rfl hS
  have F18 := FC (k := 100000018) rfl (hF e18.nm (by rfl) (by decide) (by decide))
  have F29 := FC (k := 100000029) rfl (hF e29.nm (by rfl) (by decide) (by decide))
  have F30 := FC (k := 100000030) rfl (hF e30.nm (by rfl) (by decide) (by decide))
  replace hf : fits [.x, (.i .i64), (.i .i64), (.i .i64), (.i .i64), .x, (.i .i64), (.i .i64), (.i .i64)] xs := hf
  obtain ⟨S, xs0, hx0, hS, hf0⟩ := fits_cons hf
  obtain ⟨now, xs1, hx1, hnow, hf1⟩ := fits_cons hf0
  obtain ⟨bu, xs2, hx2, hbu, hf2⟩ := fits_cons hf1
  obtain ⟨le, xs3, hx3, hle, hf3⟩ := fits_cons hf2
  obtain ⟨mo, xs4, hx4, hmo, hf4⟩ := fits_cons hf3
  obtain ⟨T, xs5, hx5, hT, hf5⟩ := fits_cons hf4
  obtain ⟨m, xs6, hx6, hm, hf6⟩ := fits_cons hf5
  obtain ⟨c, xs7, hx7, hc, hf7⟩ := fits_cons hf6
  obtain ⟨i, xs8, hx8, hi, hf8⟩ := fits_cons hf7
  have hxn := fits_nil hf8
  subst hxn hx8 hx7 hx6 hx5 hx4 hx3 hx2 hx1 hx0
  simp only [norm_i] at hnow hbu hle hmo hm hc hi
  obtain ⟨ρ, hρ, hd⟩ := solve (F := l.F) 9 defs_LPl (by kernel_rfl) [S, now, bu, le, mo, T, m, c, i]
  have hDf := dE_tt (by kernel_rfl) hd
  refine ⟨ρ, hρ, ?_⟩
  have r0 : ρ 0 = S := hρ 0 (by decide)
  have r1 : ρ 1 = now := hρ 1 (by decide)
  have r2 : ρ 2 = bu := hρ 2 (by decide)
  have r3 : ρ 3 = le := hρ 3 (by decide)
  have r4 : ρ 4 = mo := hρ 4 (by decide)
  have r5 : ρ 5 = T := hρ 5 (by decide)
  have r6 : ρ 6 = m := hρ 6 (by decide)
  have r7 : ρ 7 = c := hρ 7 (by decide)
  have r8 : ρ 8 = i := hρ 8 (by decide)
  obtain ⟨v1, hv1, hd1, hn1⟩ := nmd hd 0 rfl
  obtain ⟨v2, hv2, hd2, hn2⟩ := nmd hd 1 rfl
  obtain ⟨v3, hv3, hd3, hn3⟩ := nmd hd 2 rfl
  obtain ⟨v4, hv4, hd4, hn4⟩ := nmd hd 3 rfl
  obtain ⟨v5, hv5, hd5, hn5⟩ := nmd hd 4 rfl
  obtain ⟨v6, hv6, hd6, hn6⟩ := nmd hd 5 rfl
  simp only [norm_i] at hn1 hn3 hn4 hn5 hn6
  simp (disch := omega) only [norm_i, a_LPl_0, F18, F29, F30, Ent.nm_fn, r0, r1, hnow, r2, hbu, r3, hle, r4, hmo, r5, r6, hm, r7, hc, r8, hi, hv1, hn1, hv2, hn2, hv3, hn3, hv4, hn4, hv5, hn5, hv6, hn6, ewA, ewL, preC, binI, dvI, shI, cmpB, env, bi, List.headD, List.tail, List.map, Nat.reduceAdd, ewR, ewB, ewM, if_true, if_false, implies_true, forall_const, ne_eq, reduceCtorEq, Int.reduceEq, Int.reduceLT, Int.reduceLE, Int.reduceToNat, Int.reduceAdd, Int.reduceSub, Int.reduceMul, Int.reduceNeg, Int.reduceBEq, Nat.reduceLT, Nat.reduceEqDiff] at hd1 hd2 hd3 hd4 hd5 hd6
  have hSS := And.intro (And.intro (And.intro (And.intro (And.intro F9005 F18) (And.intro F29 F30)) (And.intro (And.intro r0 r1) (And.intro hnow r2))) (And.intro (And.intro (And.intro hbu r3) (And.intro hle r4)) (And.intro (And.intro hmo r5) (And.intro r6 hm)))) (And.intro (And.intro (And.intro (And.intro r7 hc) (And.intro r8 hi)) (And.intro (And.intro hv1 hn1) (And.intro hv2 hn2))) (And.intro (And.intro (And.intro hv3 hn3) (And.intro hv4 hn4)) (And.intro (And.intro hv5 hn5) (And.intro hv6 (And.intro hn6 hDf)))))
  obtain ⟨⟨d, B, hw⟩, p1, p2, p3⟩ := hp
  replace hw : WV S now bu le mo T c d B := hw
  replace p1 : m = cntT (dc T) i := p1
  replace p2 : 0 ≤ i := p2
  replace p3 : i ≤ c := p3
  have hct := hw.ct
  have htm := hw.tm
  have y29 : e29.pre [S, now, bu, le, mo, T, i] := hw.preR i
  have y30 : e30.pre [S, now, bu, le, mo, T, i] := hw.preR i
  have y18 : e18.pre [S, now, bu, le, mo, T] := hw.lenOK []
  by_cases hi : i < c
  · have hic : (i.toNat : Int) < c := by omega
    obtain ⟨D, hD⟩ : ∃ D, d i.toNat = D := ⟨_, rfl⟩
    have eD := hw.dl i.toNat hic
    have hdr := hw.dr hic
    have hpl := hw.places (i := i.toNat) hic
    rw [hD] at eD hdr hpl
    obtain ⟨lv, hlv⟩ : ∃ lv, gC (dc T) i.toNat 0 = lv := ⟨_, rfl⟩
    obtain ⟨ix, hix⟩ : ∃ ix, gC (dc T) i.toNat 1 = ix := ⟨_, rfl⟩
    rw [hlv, hix] at hpl
    have hr : riW [S, now, bu, le, mo, T, i] := by have := hw.cp; show 0 ≤ i ∧ i < ((dc T).length : Int); omega
    have f1 : e29.fn 0 [S, now, bu, le, mo, T, i] = D := (if_pos hr).trans eD
    have f2 : e29.fn 1 [S, now, bu, le, mo, T, i] = b2i (decide (riW [S, now, bu, le, mo, T, i]) && decide (gC (dc T) i.toNat 4 ≠ 0)) := rfl
    rw [eD, show decide (riW [S, now, bu, le, mo, T, i]) = true from decide_eq_true hr, Bool.true_and] at f2
    have f3 : e30.fn 0 [S, now, bu, le, mo, T, i] = if riW [S, now, bu, le, mo, T, i] ∧ now < gC (dc T) i.toNat 4 then gC (dc T) i.toNat 0 else 0 := rfl
    have f4 : e30.fn 1 [S, now, bu, le, mo, T, i] = if riW [S, now, bu, le, mo, T, i] ∧ now < gC (dc T) i.toNat 4 then gC (dc T) i.toNat 1 else 0 := rfl
    have f5 : e30.fn 2 [S, now, bu, le, mo, T, i] = if riW [S, now, bu, le, mo, T, i] then (if now < gC (dc T) i.toNat 4 then 0 else 6) else 2 := rfl
    rw [eD] at f3 f4 f5
    rw [hlv] at f3
    rw [hix] at f4
    rw [if_pos hr] at f5
    have f6 : e18.fn 0 [S, now, bu, le, mo, T] = now := rfl
    have k1 := hd1
    have k2 := hd2
    have k3 := hd3
    have k4 := hd4
    have k5 := hd5
    have k6 := hd6
    rw [f1] at hd1
    rw [f2] at hd2
    rw [f3] at hd3
    rw [f4] at hd4
    rw [f5] at hd5
    rw [f6] at hd6
    clear f1 f2 f3 f4 f5 f6
    obtain rfl : D = v1 := (hd1.trans (i64w (by omega) (by omega))).symm
    obtain rfl : now = v6 := (hd6.trans (i64w (by omega) (by omega))).symm
    have hcs := cntT_succ (T := dc T) p2
    have hcr := cntT_rng (dc T) p2
    rw [eD, ← p1] at hcs
    have fin : ∀ m', m' = cntT (dc T) (i + 1) → (lbPl.ent.pre [S, now, bu, le, mo, T, m', c, i + 1] ∧ muPl [S, now, bu, le, mo, T, m', c, i + 1] < muPl [S, now, bu, le, mo, T, m, c, i]) ∧ postPl [S, now, bu, le, mo, T, m, c, i] (outsE φ [S, now, bu, le, mo, T, m', c, i + 1] 0 lbPl.ent.oks) := fun m' hm' => by
      have yp : lbPl.ent.pre [S, now, bu, le, mo, T, m', c, i + 1] := ⟨⟨d, B, hw⟩, hm', by show 0 ≤ i + 1; omega, by show i + 1 ≤ c; omega⟩
      have ym : muPl [S, now, bu, le, mo, T, m', c, i + 1] < muPl [S, now, bu, le, mo, T, m, c, i] := by show (c - (i + 1)).toNat < (c - i).toNat; omega
      have hm2 : m' = m ∨ m' = m + 1 := by rw [hm', hcs]; split <;> omega
      exact ⟨⟨yp, ym⟩, hφ [S, now, bu, le, mo, T, m', c, i + 1] ⟨rfl, hnow, hbu, hle, hmo, rfl, i64w (by omega) (by omega), hc, i64w (by omega) (by omega), trivial⟩ yp ym⟩
    by_cases h0 : D = 0
    · obtain rfl : (0 : Int) = v2 := by rw [hd2, h0]; rfl
      obtain rfl : (6 : Int) = v5 := by rw [hd5, if_neg (by omega)]; rfl
      obtain ⟨⟨u1, u2⟩, u3⟩ := fin m (by rw [hcs, if_neg (by omega)]; omega)
      refine ⟨?_, ?_⟩
      · simp (disch := omega) only [ob_LPl, q_LPl_0, q_LPl_1, q_LPl_2, q_LPl_3, q_LPl_4, q_LPl_5, q_LPl_6, q_LPl_7, q_LPl_8, q_LPl_9, q_LPl_10, q_LPl_11, ewA, ewL, preC, binI, dvI, shI, cmpB, env, bi, List.headD, List.tail, List.map, Nat.reduceAdd, ewR, ewB, ewM, if_true, if_false, implies_true, forall_const, ne_eq, reduceCtorEq, Int.reduceEq, Int.reduceLT, Int.reduceLE, Int.reduceToNat, Int.reduceAdd, Int.reduceSub, Int.reduceMul, Int.reduceNeg, Int.reduceBEq, Nat.reduceLT, Nat.reduceEqDiff, hSS, hi, h0, y29, y30, y18, Int.add_zero, u1, u2]
        repeat' (first | (with_reducible apply And.intro) | (with_reducible intro _))
        all_goals first | with_reducible assumption | trivial | omega | (split <;> omega)
      · simp (disch := omega) only [es_LPl, q_LPl_0, q_LPl_1, q_LPl_2, q_LPl_3, q_LPl_4, q_LPl_5, q_LPl_6, q_LPl_7, q_LPl_8, q_LPl_9, q_LPl_10, q_LPl_11, ewA, ewL, preC, binI, dvI, shI, cmpB, env, bi, List.headD, List.tail, List.map, Nat.reduceAdd, ewR, ewB, ewM, if_true, if_false, implies_true, forall_const, ne_eq, reduceCtorEq, Int.reduceEq, Int.reduceLT, Int.reduceLE, Int.reduceToNat, Int.reduceAdd, Int.reduceSub, Int.reduceMul, Int.reduceNeg, Int.reduceBEq, Nat.reduceLT, Nat.reduceEqDiff, hSS, Int.add_zero, hi, h0]
        exact u3
    · have h1 : 0 < D := by omega
      obtain rfl : (1 : Int) = v2 := by
        rw [hd2, show decide (D ≠ 0) = true from decide_eq_true h0]; rfl
      obtain ⟨⟨u1, u2⟩, u3⟩ := fin (m + 1) (by rw [hcs, if_pos h1])
      by_cases h2 : D ≤ now
      · obtain rfl : (6 : Int) = v5 := by rw [hd5, if_neg (by omega)]; rfl
        refine ⟨?_, ?_⟩
        · simp (disch := omega) only [ob_LPl, q_LPl_0, q_LPl_1, q_LPl_2, q_LPl_3, q_LPl_4, q_LPl_5, q_LPl_6, q_LPl_7, q_LPl_8, q_LPl_9, q_LPl_10, q_LPl_11, ewA, ewL, preC, binI, dvI, shI, cmpB, env, bi, List.headD, List.tail, List.map, Nat.reduceAdd, ewR, ewB, ewM, if_true, if_false, implies_true, forall_const, ne_eq, reduceCtorEq, Int.reduceEq, Int.reduceLT, Int.reduceLE, Int.reduceToNat, Int.reduceAdd, Int.reduceSub, Int.reduceMul, Int.reduceNeg, Int.reduceBEq, Nat.reduceLT, Nat.reduceEqDiff, hSS, hi, h0, h2, y29, y30, y18, Int.add_zero, u1, u2]
          repeat' (first | (with_reducible apply And.intro) | (with_reducible intro _))
          all_goals first | with_reducible assumption | trivial | omega | (split <;> omega)
        · simp (disch := omega) only [es_LPl, q_LPl_0, q_LPl_1, q_LPl_2, q_LPl_3, q_LPl_4, q_LPl_5, q_LPl_6, q_LPl_7, q_LPl_8, q_LPl_9, q_LPl_10, q_LPl_11, ewA, ewL, preC, binI, dvI, shI, cmpB, env, bi, List.headD, List.tail, List.map, Nat.reduceAdd, ewR, ewB, ewM, if_true, if_false, implies_true, forall_const, ne_eq, reduceCtorEq, Int.reduceEq, Int.reduceLT, Int.reduceLE, Int.reduceToNat, Int.reduceAdd, Int.reduceSub, Int.reduceMul, Int.reduceNeg, Int.reduceBEq, Nat.reduceLT, Nat.reduceEqDiff, hSS, Int.add_zero, hi, h0, h2]
          exact u3
      · obtain ⟨g1, g2, g3, g4, g5⟩ := hpl (by omega)
        obtain rfl : (0 : Int) = v5 := by rw [hd5, if_pos (by omega)]; rfl
        obtain rfl : lv = v3 := by rw [hd3, if_pos ⟨hr, by omega⟩]; exact (i64w (by omega) (by omega)).symm
        obtain rfl : ix = v4 := by rw [hd4, if_pos ⟨hr, by omega⟩]; exact (i64w (by omega) (by omega)).symm
        have w8 : IntKind.i64.wrap (8 * lv) = 8 * lv := i64w (by omega) (by omega)
        have hsh : D.fdiv (2 ^ min (8 * lv).toNat IntKind.i64.bits) = blk lv D := shr_blk g1
        have hs1 : ∀ x : Int, x.fdiv (2 ^ min 8 IntKind.i64.bits) = x / 256 := fun x => shr_blk (lv := 1) (by decide)
        have hb : 0 ≤ blk lv D ∧ blk lv D ≤ D := blk_rng lv (by omega)
        have tb : (blk lv D).tmod 512 = ix := by rw [Int.tmod_eq_emod_of_nonneg hb.1]; exact g2.symm
        have tn : now.tmod 256 = now % 256 := Int.tmod_eq_emod_of_nonneg htm.1
        have ws : IntKind.i64.wrap (D / 256 - now / 256) = D / 256 - now / 256 := i64w (by omega) (by omega)
        refine ⟨?_, ?_⟩
        · simp (disch := omega) only [ob_LPl, q_LPl_0, q_LPl_1, q_LPl_2, q_LPl_3, q_LPl_4, q_LPl_5, q_LPl_6, q_LPl_7, q_LPl_8, q_LPl_9, q_LPl_10, q_LPl_11, ewA, ewL, preC, binI, dvI, shI, cmpB, env, bi, List.headD, List.tail, List.map, Nat.reduceAdd, ewR, ewB, ewM, if_true, if_false, implies_true, forall_const, ne_eq, reduceCtorEq, Int.reduceEq, Int.reduceLT, Int.reduceLE, Int.reduceToNat, Int.reduceAdd, Int.reduceSub, Int.reduceMul, Int.reduceNeg, Int.reduceBEq, Nat.reduceLT, Nat.reduceEqDiff, hSS, hi, h0, h2, y29, y30, y18, Int.add_zero, u1, u2, w8, hsh, hs1, tb, tn, ws]
          repeat' (first | (with_reducible apply And.intro) | (with_reducible intro _))
          all_goals first | with_reducible assumption | trivial | omega | (split <;> omega)
        · simp (disch := omega) only [es_LPl, q_LPl_0, q_LPl_1, q_LPl_2, q_LPl_3, q_LPl_4, q_LPl_5, q_LPl_6, q_LPl_7, q_LPl_8, q_LPl_9, q_LPl_10, q_LPl_11, ewA, ewL, preC, binI, dvI, shI, cmpB, env, bi, List.headD, List.tail, List.map, Nat.reduceAdd, ewR, ewB, ewM, if_true, if_false, implies_true, forall_const, ne_eq, reduceCtorEq, Int.reduceEq, Int.reduceLT, Int.reduceLE, Int.reduceToNat, Int.reduceAdd, Int.reduceSub, Int.reduceMul, Int.reduceNeg, Int.reduceBEq, Nat.reduceLT, Nat.reduceEqDiff, hSS, Int.add_zero, hi, h0, h2]
          exact u3
  · refine ⟨?_, ?_⟩
    · simp (disch := omega) only [ob_LPl, q_LPl_0, q_LPl_1, q_LPl_2, q_LPl_3, q_LPl_4, q_LPl_5, q_LPl_6, q_LPl_7, q_LPl_8, q_LPl_9, q_LPl_10, q_LPl_11, ewA, ewL, preC, binI, dvI, shI, cmpB, env, bi, List.headD, List.tail, List.map, Nat.reduceAdd, ewR, ewB, ewM, if_true, if_false, implies_true, forall_const, ne_eq, reduceCtorEq, Int.reduceEq, Int.reduceLT, Int.reduceLE, Int.reduceToNat, Int.reduceAdd, Int.reduceSub, Int.reduceMul, Int.reduceNeg, Int.reduceBEq, Nat.reduceLT, Nat.reduceEqDiff, hSS, hi]
    · simp (disch := omega) only [es_LPl, q_LPl_0, q_LPl_1, q_LPl_2, q_LPl_3, q_LPl_4, q_LPl_5, q_LPl_6, q_LPl_7, q_LPl_8, q_LPl_9, q_LPl_10, q_LPl_11, ewA, ewL, preC, binI, dvI, shI, cmpB, env, bi, List.headD, List.tail, List.map, Nat.reduceAdd, ewR, ewB, ewM, if_true, if_false, implies_true, forall_const, ne_eq, reduceCtorEq, Int.reduceEq, Int.reduceLT, Int.reduceLE, Int.reduceToNat, Int.reduceAdd, Int.reduceSub, Int.reduceMul, Int.reduceNeg, Int.reduceBEq, Nat.reduceLT, Nat.reduceEqDiff, hSS, hi]
      show m = cntT (dc T) c
      rw [p1, show i = c by omega]

end
end Go.Proofs.Ytfhheeoejncfgaa.Ew
