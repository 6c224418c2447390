/- Layer 18: some timers are armed. -/
import Derived.Test.YtfhheeoejncfgaaHp
set_option linter.unusedVariables false
set_option linter.unusedSimpArgs false
namespace Go.Proofs.Ytfhheeoejncfgaa.Ew
open Go Go.RowKit
noncomputable section
--P Try.prog G0

def nfS : Sh := .fnc 52 []
def actS : Sh := .agg [u8S, i64, i64, i64]
def actK : List K := [.i .u8, .i .i64, .i .i64, .i .i64]
def WE (S now bu le mo T c : Int) : Prop := ∃ d B, WV S now bu le mo T c d B
def preAr (xs : List Int) : Prop := WE (env xs 0) (env xs 1) (env xs 2) (env xs 3) (env xs 4) (env xs 5) (env xs 6) ∧ (0 ≤ env xs 7 ∧ env xs 7 < env xs 6) ∧ (0 ≤ env xs 8 ∧ env xs 8 ≤ 7) ∧ (0 ≤ env xs 9 ∧ env xs 9 < 2147483648 ∧ (env xs 9 ≤ 3000 ∨ env xs 10 ≤ 1)) ∧ 0 ≤ env xs 11 ∧ env xs 11 ≤ env xs 10 ∧ env xs 10 ≤ 20
/-- The wheel is at rest; its time, budget, moves and capacity are the same. -/
def postAr (xs ys : List Int) : Prop := WE (env ys 0) (env ys 1) (env ys 2) (env ys 3) (env ys 4) (env ys 5) (env xs 6) ∧ env ys 1 = env xs 1 ∧ env ys 2 = env xs 2 ∧ env ys 4 = env xs 4
def muAr (xs : List Int) : Nat := (env xs 10 - env xs 11).toNat
def pAr : List Bool := [true,true,true,false,true,false]
def lbAr : LEnt := ⟨⟨9026, 999999, [wsh, i64, nfS, i64, i64, i64, i64, i64], [wob], [], .tup [], z0, preAr⟩, [0, 1, 3, 9, 11, 12, 36, 37], [], [13, 14, 15] ++ (List.range 27).map (· + 37), [.ex 0], 64, []⟩
def cO : Ctx := ⟨[e18, e14], []⟩
def cOn : Ctx := cO.nm

def acts : Sh := .lst 41 (Row.ofKs actK) false
def cT : Ctx := ⟨[e15], []⟩
def cTn : Ctx := cT.nm
def actOK (xs : List Int) (j : Nat) : Prop := rowsOK actK (dc (env xs j))
def preA4 (xs : List Int) : Prop := rowsOK actK (dc (env xs 4)) ∧ ((dc (env xs 4)).length : Int) ≤ 9223372036854775807
def postN (_ _ : List Int) : Prop := True

def a_LAr_0 : List E := [(.var .x 0), (.var (.i .i64) 1), (.var (.i .i64) 2), (.var (.i .i64) 3), (.var (.i .i64) 4), (.var .x 5), (.app (.i .i64) 0 21 [(.bin .add .i64 (.var (.i .i64) 7) (.var (.i .i64) 11)), (.var (.i .i64) 6)]), (.bin .add .i64 (.bin .add .i64 (.bin .add .i64 (.var (.i .i64) 640000115207296) (.lit (.i .i64) 1)) (.var (.i .i64) 9)) (.bin .mul .i64 (.var (.i .i64) 11) (.var (.i .i64) 8)))]
def defs_LAr : List (Nat × E) := [(640000115207296, (.app (.i .i64) 100000018 0 [(.var .x 0), (.var (.i .i64) 1), (.var (.i .i64) 2), (.var (.i .i64) 3), (.var (.i .i64) 4), (.var .x 5)])),
  (640000089612416, (.app .x 100000014 0 a_LAr_0)),
  (640000089612417, (.app (.i .i64) 100000014 1 a_LAr_0)),
  (640000089612418, (.app (.i .i64) 100000014 2 a_LAr_0)),
  (640000089612419, (.app (.i .i64) 100000014 3 a_LAr_0)),
  (640000089612420, (.app (.i .i64) 100000014 4 a_LAr_0)),
  (640000089612421, (.app .x 100000014 5 a_LAr_0)),
  (640000089612422, (.app (.i .i64) 100000014 6 a_LAr_0))]
def q_LAr_0 : E := (.and (.cmp .lss (.var (.i .i64) 11) (.var (.i .i64) 10)) (.not (.cmp .neq (.var (.i .i64) 640000089612422) (.lit (.i .i64) 0))))
def ob_LAr : E := (.and (.and (.or (.not (.cmp .lss (.var (.i .i64) 11) (.var (.i .i64) 10))) (.and (.and (.cmp .neq (.var (.i .i64) 6) (.lit (.i .i64) 0)) (.and (.app .b 100000018 1000000 [(.var .x 0), (.var (.i .i64) 1), (.var (.i .i64) 2), (.var (.i .i64) 3), (.var (.i .i64) 4), (.var .x 5)]) (dE defs_LAr 0 1))) (.and (.app .b 100000014 1000000 [(.var .x 0), (.var (.i .i64) 1), (.var (.i .i64) 2), (.var (.i .i64) 3), (.var (.i .i64) 4), (.var .x 5), (.app (.i .i64) 0 21 [(.bin .add .i64 (.var (.i .i64) 7) (.var (.i .i64) 11)), (.var (.i .i64) 6)]), (.bin .add .i64 (.bin .add .i64 (.bin .add .i64 (.var (.i .i64) 640000115207296) (.lit (.i .i64) 1)) (.var (.i .i64) 9)) (.bin .mul .i64 (.var (.i .i64) 11) (.var (.i .i64) 8)))]) (dE defs_LAr 1 7)))) (.or (.not q_LAr_0) (.app .b 9026 1000000 [(.var .x 640000089612416), (.var (.i .i64) 640000089612417), (.var (.i .i64) 640000089612418), (.var (.i .i64) 640000089612419), (.var (.i .i64) 640000089612420), (.var .x 640000089612421), (.var (.i .i64) 6), (.var (.i .i64) 7), (.var (.i .i64) 8), (.var (.i .i64) 9), (.var (.i .i64) 10), (.bin .add .i64 (.var (.i .i64) 11) (.lit (.i .i64) 1))]))) (.and (.or (.not (.or (.not (.cmp .lss (.var (.i .i64) 11) (.var (.i .i64) 10))) q_LAr_0)) (.ite (.not (.cmp .lss (.var (.i .i64) 11) (.var (.i .i64) 10))) (.not (.cmp .lss (.var (.i .i64) 11) (.var (.i .i64) 10))) (.cmp .lss (.var (.i .i64) 11) (.var (.i .i64) 10)))) (.not (.and (.cmp .lss (.var (.i .i64) 11) (.var (.i .i64) 10)) (.cmp .neq (.var (.i .i64) 640000089612422) (.lit (.i .i64) 0))))))
def es_LAr : List E := [(.ite (.not (.cmp .lss (.var (.i .i64) 11) (.var (.i .i64) 10))) (.var .x 0) (.app .x 9026 0 [(.var .x 640000089612416), (.var (.i .i64) 640000089612417), (.var (.i .i64) 640000089612418), (.var (.i .i64) 640000089612419), (.var (.i .i64) 640000089612420), (.var .x 640000089612421), (.var (.i .i64) 6), (.var (.i .i64) 7), (.var (.i .i64) 8), (.var (.i .i64) 9), (.var (.i .i64) 10), (.bin .add .i64 (.var (.i .i64) 11) (.lit (.i .i64) 1))])), (.ite (.not (.cmp .lss (.var (.i .i64) 11) (.var (.i .i64) 10))) (.var (.i .i64) 1) (.app (.i .i64) 9026 1 [(.var .x 640000089612416), (.var (.i .i64) 640000089612417), (.var (.i .i64) 640000089612418), (.var (.i .i64) 640000089612419), (.var (.i .i64) 640000089612420), (.var .x 640000089612421), (.var (.i .i64) 6), (.var (.i .i64) 7), (.var (.i .i64) 8), (.var (.i .i64) 9), (.var (.i .i64) 10), (.bin .add .i64 (.var (.i .i64) 11) (.lit (.i .i64) 1))])), (.ite (.not (.cmp .lss (.var (.i .i64) 11) (.var (.i .i64) 10))) (.var (.i .i64) 2) (.app (.i .i64) 9026 2 [(.var .x 640000089612416), (.var (.i .i64) 640000089612417), (.var (.i .i64) 640000089612418), (.var (.i .i64) 640000089612419), (.var (.i .i64) 640000089612420), (.var .x 640000089612421), (.var (.i .i64) 6), (.var (.i .i64) 7), (.var (.i .i64) 8), (.var (.i .i64) 9), (.var (.i .i64) 10), (.bin .add .i64 (.var (.i .i64) 11) (.lit (.i .i64) 1))])), (.ite (.not (.cmp .lss (.var (.i .i64) 11) (.var (.i .i64) 10))) (.var (.i .i64) 3) (.app (.i .i64) 9026 3 [(.var .x 640000089612416), (.var (.i .i64) 640000089612417), (.var (.i .i64) 640000089612418), (.var (.i .i64) 640000089612419), (.var (.i .i64) 640000089612420), (.var .x 640000089612421), (.var (.i .i64) 6), (.var (.i .i64) 7), (.var (.i .i64) 8), (.var (.i .i64) 9), (.var (.i .i64) 10), (.bin .add .i64 (.var (.i .i64) 11) (.lit (.i .i64) 1))])), (.ite (.not (.cmp .lss (.var (.i .i64) 11) (.var (.i .i64) 10))) (.var (.i .i64) 4) (.app (.i .i64) 9026 4 [(.var .x 640000089612416), (.var (.i .i64) 640000089612417), (.var (.i .i64) 640000089612418), (.var (.i .i64) 640000089612419), (.var (.i .i64) 640000089612420), (.var .x 640000089612421), (.var (.i .i64) 6), (.var (.i .i64) 7), (.var (.i .i64) 8), (.var (.i .i64) 9), (.var (.i .i64) 10), (.bin .add .i64 (.var (.i .i64) 11) (.lit (.i .i64) 1))])), (.ite (.not (.cmp .lss (.var (.i .i64) 11) (.var (.i .i64) 10))) (.var .x 5) (.app .x 9026 5 [(.var .x 640000089612416), (.var (.i .i64) 640000089612417), (.var (.i .i64) 640000089612418), (.var (.i .i64) 640000089612419), (.var (.i .i64) 640000089612420), (.var .x 640000089612421), (.var (.i .i64) 6), (.var (.i .i64) 7), (.var (.i .i64) 8), (.var (.i .i64) 9), (.var (.i .i64) 10), (.bin .add .i64 (.var (.i .i64) 11) (.lit (.i .i64) 1))]))]
def leAr : LEnt := lbAr.fw (fnL lbAr cOn.l ob_LAr es_LAr postAr muAr)
theorem ev_LAr : evL Try.prog G0 (tabOf cOn.fs) (evFn Try.prog G0 (tabOf cOn.fs) (ltOf cOn.ls) 40 10) 40 (subL cOn.ls 26 pAr) leAr (bodyAt Try.prog 26 pAr) = some (ob_LAr, es_LAr) := by kernel_rfl

theorem cOok : cO.OK Try.prog G0 := (Ctx.OK.nil.addF ok14 rfl).addF ok18 rfl
theorem cTok : cT.OK Try.prog G0 := Ctx.OK.nil.addF ok15 rfl
theorem mul_rng {i s : Int} (h1 : 0 ≤ i ∧ i < 20) (h2 : 0 ≤ s ∧ s ≤ 7) : 0 ≤ i * s ∧ i * s ≤ 133 := by
  have := Int.mul_nonneg h1.1 h2.1
  have := Int.mul_le_mul (show i ≤ 19 by omega) h2.2 h2.1 (by decide)
  omega

theorem okAr : ItemOK Try.prog G0 26 pAr leAr ∧ PostOK leAr.ent postAr := by
  refine cOok.nm.loopH mixed rfl ⟨_, _, _, Try.func26, rfl, rfl⟩ ev_LAr (by kernel_rfl) _ rfl fun xs hf hp φ hφ => ?_
  obtain ⟨l, hl, hS, hF⟩ := self_H lbAr φ muAr (muAr xs) cOn.l (by decide)
  show ∃ ρ : Nat → Int, _ ∧ ob_LAr.tt (Tabs.F (enH lbAr φ muAr (muAr xs) :: cOn.l)) ρ = true ∧ postAr xs (es_LAr.map (E.den (Tabs.F (enH lbAr φ muAr (muAr xs) :: cOn.l)) ρ))
  rw [hl]
  replace hφ : ∀ ys, fits [.x, (.i .i64), (.i .i64), (.i .i64), (.i .i64), .x, (.i .i64), (.i .i64), (.i .i64), (.i .i64), (.i .i64), (.i .i64)] ys → lbAr.ent.pre ys → muAr ys < muAr xs → postAr ys (outsE φ ys 0 lbAr.ent.oks) := hφ
  have F9026 := FC (k := 9026) rfl hS
  have F14 := FC (k := 100000014) rfl (hF e14.nm (by rfl) (by decide) (by decide))
  have F18 := FC (k := 100000018) rfl (hF e18.nm (by rfl) (by decide) (by decide))
  replace hf : fits [.x, (.i .i64), (.i .i64), (.i .i64), (.i .i64), .x, (.i .i64), (.i .i64), (.i .i64), (.i .i64), (.i .i64), (.i .i64)] xs := hf
  obtain ⟨S, xs0, hx0, hS, hf0⟩ := fits_cons hf
  obtain ⟨now, xs1, hx1, hnow, hf1⟩ := fits_cons hf0
  obtain ⟨bu, xs2, hx2, hbu, hf2⟩ := fits_cons hf1
  obtain ⟨le, xs3, hx3, hle, hf3⟩ := fits_cons hf2
  obtain ⟨mo, xs4, hx4, hmo, hf4⟩ := fits_cons hf3
  obtain ⟨T, xs5, hx5, hT, hf5⟩ := fits_cons hf4
  obtain ⟨c, xs6, hx6, hc, hf6⟩ := fits_cons hf5
  obtain ⟨id, xs7, hx7, hid, hf7⟩ := fits_cons hf6
  obtain ⟨st, xs8, hx8, hst, hf8⟩ := fits_cons hf7
  obtain ⟨fr, xs9, hx9, hfr, hf9⟩ := fits_cons hf8
  obtain ⟨mn, xs10, hx10, hmn, hf10⟩ := fits_cons hf9
  obtain ⟨i, xs11, hx11, hi, hf11⟩ := fits_cons hf10
  have hxn := fits_nil hf11
  subst hxn hx11 hx10 hx9 hx8 hx7 hx6 hx5 hx4 hx3 hx2 hx1 hx0
  simp only [norm_i] at hnow hbu hle hmo hc hid hst hfr hmn hi
  obtain ⟨ρ, hρ, hd⟩ := solve (F := l.F) 12 defs_LAr (by kernel_rfl) [S, now, bu, le, mo, T, c, id, st, fr, mn, i]
  have hDf := dE_tt (by kernel_rfl) hd
  refine ⟨ρ, hρ, ?_⟩
  have r0 : ρ 0 = S := hρ 0 (by decide)
  have r1 : ρ 1 = now := hρ 1 (by decide)
  have r2 : ρ 2 = bu := hρ 2 (by decide)
  have r3 : ρ 3 = le := hρ 3 (by decide)
  have r4 : ρ 4 = mo := hρ 4 (by decide)
  have r5 : ρ 5 = T := hρ 5 (by decide)
  have r6 : ρ 6 = c := hρ 6 (by decide)
  have r7 : ρ 7 = id := hρ 7 (by decide)
  have r8 : ρ 8 = st := hρ 8 (by decide)
  have r9 : ρ 9 = fr := hρ 9 (by decide)
  have r10 : ρ 10 = mn := hρ 10 (by decide)
  have r11 : ρ 11 = i := hρ 11 (by decide)
  obtain ⟨v1, hv1, hd1, hn1⟩ := nmd hd 0 rfl
  obtain ⟨v2, hv2, hd2, hn2⟩ := nmd hd 1 rfl
  obtain ⟨v3, hv3, hd3, hn3⟩ := nmd hd 2 rfl
  obtain ⟨v4, hv4, hd4, hn4⟩ := nmd hd 3 rfl
  obtain ⟨v5, hv5, hd5, hn5⟩ := nmd hd 4 rfl
  obtain ⟨v6, hv6, hd6, hn6⟩ := nmd hd 5 rfl
  obtain ⟨v7, hv7, hd7, hn7⟩ := nmd hd 6 rfl
  obtain ⟨v8, hv8, hd8, hn8⟩ := nmd hd 7 rfl
  simp only [norm_i] at hn1 hn3 hn4 hn5 hn6 hn8
  simp (disch := omega) only [norm_i, a_LAr_0, F14, F18, Ent.nm_fn, r0, r1, hnow, r2, hbu, r3, hle, r4, hmo, r5, r6, hc, r7, hid, r8, hst, r9, hfr, r10, hmn, r11, hi, hv1, hn1, hv2, hv3, hn3, hv4, hn4, hv5, hn5, hv6, hn6, hv7, hv8, hn8, ewA, ewL, preC, binI, dvI, shI, cmpB, env, bi, List.headD, List.tail, List.map, Nat.reduceAdd, ewR, ewB, ewM, if_true, if_false, implies_true, forall_const, ne_eq, reduceCtorEq, Int.reduceEq, Int.reduceLT, Int.reduceLE, Int.reduceToNat, Int.reduceAdd, Int.reduceSub, Int.reduceMul, Int.reduceNeg, Int.reduceBEq, Nat.reduceLT, Nat.reduceEqDiff] at hd1 hd2 hd3 hd4 hd5 hd6 hd7 hd8
  have hSS := And.intro (And.intro (And.intro (And.intro (And.intro F9026 F14) (And.intro F18 (And.intro r0 r1))) (And.intro (And.intro hnow r2) (And.intro hbu (And.intro r3 hle)))) (And.intro (And.intro (And.intro r4 hmo) (And.intro r5 (And.intro r6 hc))) (And.intro (And.intro r7 hid) (And.intro r8 (And.intro hst r9))))) (And.intro (And.intro (And.intro (And.intro hfr r10) (And.intro hmn (And.intro r11 hi))) (And.intro (And.intro hv1 hn1) (And.intro hv2 (And.intro hv3 hn3)))) (And.intro (And.intro (And.intro hv4 hn4) (And.intro hv5 (And.intro hn5 hv6))) (And.intro (And.intro hn6 hv7) (And.intro hv8 (And.intro hn8 hDf)))))
  obtain ⟨⟨d, B, hw⟩, p1, p2, p3, p4, p5, p6⟩ := hp
  replace hw : WV S now bu le mo T c d B := hw
  simp only [ewA, ewL, preC, binI, dvI, shI, cmpB, env, bi, List.headD, List.tail, List.map, Nat.reduceAdd] at p1 p2 p3 p4 p5 p6
  have htm := hw.tm
  have hct := hw.ct
  have y1 : e18.pre [S, now, bu, le, mo, T] := hw.lenOK []
  by_cases hi : i < mn
  · have hm := mul_rng (i := i) (s := st) (by omega) p2
    obtain rfl : now = v1 := (hd1.trans (i64w (by show _ ≤ now; omega) (by show now ≤ _; omega))).symm
    obtain ⟨t, ht⟩ : ∃ t, t = i * st := ⟨_, rfl⟩
    have wt : IntKind.i64.wrap (i * st) = t := by rw [ht]; exact i64w (by omega) (by omega)
    have w1 : IntKind.i64.wrap (id + i) = id + i := i64w (by omega) (by omega)
    have w2 : (id + i).tmod c = (id + i) % c := Int.tmod_eq_emod_of_nonneg (by omega)
    have hr := Int.emod_nonneg (id + i) (show c ≠ 0 by omega)
    have hr2 := Int.emod_lt_of_pos (id + i) (show 0 < c by omega)
    have w3 : IntKind.i64.wrap ((id + i) % c) = (id + i) % c := i64w (by omega) (by omega)
    simp (disch := omega) only [ewA, ewL, preC, binI, dvI, shI, cmpB, env, bi, List.headD, List.tail, List.map, Nat.reduceAdd, ewR, ewB, ewM, if_true, if_false, implies_true, forall_const, ne_eq, reduceCtorEq, Int.reduceEq, Int.reduceLT, Int.reduceLE, Int.reduceToNat, Int.reduceAdd, Int.reduceSub, Int.reduceMul, Int.reduceNeg, Int.reduceBEq, Nat.reduceLT, Nat.reduceEqDiff, wt, w1, w2, w3] at hd2 hd3 hd4 hd5 hd6 hd7 hd8
    have hdd : fr = 0 ∨ 0 < fr := by omega
    obtain ⟨q1, q2, q3, q4, q5, _⟩ := hw.arm (i := (id + i) % c) (dd := now + 1 + fr + t) ⟨hr, hr2⟩ (by
      have hb : mn ≤ 1 → t = 0 := fun h => by rw [ht, show i = 0 by omega]; exact Int.zero_mul _
      omega) ⟨hd2, hd3, hd4, hd5, hd6, hd7, hd8, trivial⟩
    have hw' : WV v2 v3 v4 v5 v6 v7 c (upD d ((id + i) % c).toNat (now + 1 + fr + t)) (B.erase ((id + i) % c).toNat) := q1
    have yp : lbAr.ent.pre [v2, v3, v4, v5, v6, v7, c, id, st, fr, mn, i + 1] := ⟨⟨_, _, hw'⟩, p1, p2, p3, by show 0 ≤ i + 1; omega, by show i + 1 ≤ mn; omega, p6⟩
    have ym : muAr [v2, v3, v4, v5, v6, v7, c, id, st, fr, mn, i + 1] < muAr [S, now, bu, le, mo, T, c, id, st, fr, mn, i] := by show (mn - (i + 1)).toNat < (mn - i).toNat; omega
    have ih := hφ [v2, v3, v4, v5, v6, v7, c, id, st, fr, mn, i + 1] ⟨rfl, hn3, hn4, hn5, hn6, rfl, hc, hid, hst, hfr, hmn, i64w (by omega) (by omega), trivial⟩ yp ym
    obtain ⟨i1, i2, i3, i4⟩ := ih
    subst q5
    have y2 : ∀ a b, e14.pre [S, now, bu, le, mo, T, a, b] := fun a b => hw.wx2 a b
    refine ⟨?_, ?_⟩
    · simp (disch := omega) only [ob_LAr, q_LAr_0, ewA, ewL, preC, binI, dvI, shI, cmpB, env, bi, List.headD, List.tail, List.map, Nat.reduceAdd, ewR, ewB, ewM, if_true, if_false, implies_true, forall_const, ne_eq, reduceCtorEq, Int.reduceEq, Int.reduceLT, Int.reduceLE, Int.reduceToNat, Int.reduceAdd, Int.reduceSub, Int.reduceMul, Int.reduceNeg, Int.reduceBEq, Nat.reduceLT, Nat.reduceEqDiff, hSS, hi, wt, w1, w2, w3, y1, y2]
      repeat' (first | (with_reducible apply And.intro) | (with_reducible intro _))
      all_goals first | with_reducible assumption | trivial | omega | (split <;> omega)
    · simp (disch := omega) only [es_LAr, q_LAr_0, ewA, ewL, preC, binI, dvI, shI, cmpB, env, bi, List.headD, List.tail, List.map, Nat.reduceAdd, ewR, ewB, ewM, if_true, if_false, implies_true, forall_const, ne_eq, reduceCtorEq, Int.reduceEq, Int.reduceLT, Int.reduceLE, Int.reduceToNat, Int.reduceAdd, Int.reduceSub, Int.reduceMul, Int.reduceNeg, Int.reduceBEq, Nat.reduceLT, Nat.reduceEqDiff, hSS, hi, wt, w1, w2, w3]
      exact ⟨i1, i2.trans q2, i3.trans q3, i4.trans q4⟩
  · refine ⟨?_, ?_⟩
    · simp (disch := omega) only [ob_LAr, q_LAr_0, ewA, ewL, preC, binI, dvI, shI, cmpB, env, bi, List.headD, List.tail, List.map, Nat.reduceAdd, ewR, ewB, ewM, if_true, if_false, implies_true, forall_const, ne_eq, reduceCtorEq, Int.reduceEq, Int.reduceLT, Int.reduceLE, Int.reduceToNat, Int.reduceAdd, Int.reduceSub, Int.reduceMul, Int.reduceNeg, Int.reduceBEq, Nat.reduceLT, Nat.reduceEqDiff, hSS, hi]
    · simp (disch := omega) only [es_LAr, q_LAr_0, ewA, ewL, preC, binI, dvI, shI, cmpB, env, bi, List.headD, List.tail, List.map, Nat.reduceAdd, ewR, ewB, ewM, if_true, if_false, implies_true, forall_const, ne_eq, reduceCtorEq, Int.reduceEq, Int.reduceLT, Int.reduceLE, Int.reduceToNat, Int.reduceAdd, Int.reduceSub, Int.reduceMul, Int.reduceNeg, Int.reduceBEq, Nat.reduceLT, Nat.reduceEqDiff, hSS, hi]
      exact ⟨⟨d, B, hw⟩, rfl, rfl, rfl⟩

end
end Go.Proofs.Ytfhheeoejncfgaa.Ew
