/- Layer 18: WheelFree. -/
import Derived.Test.YtfhheeoejncfgaaHr
import Derived.Test.YtfhheeoejncfgaaHw
set_option linter.unusedVariables false
set_option linter.unusedSimpArgs false
namespace Go.Proofs.Ytfhheeoejncfgaa.Ew
open Go Go.RowKit
noncomputable section
--P Try.prog G0
--K 31 e31

def idR (l : List Nat) : RL := l.map fun i : Nat => [(i : Int)]
def preFr (xs : List Int) : Prop := (∃ c d B E l, WV (env xs 0) (env xs 1) (env xs 2) (env xs 3) (env xs 4) (env xs 5) c d B ∧ dc (env xs 6) = idR l ∧ env xs 7 = (l.length : Int) ∧ l.length ≤ 4096 ∧ B = l.drop (env xs 8).toNat ++ E) ∧ env xs 4 + 4096 * (env xs 7 - env xs 8) ≤ 1125899906842624 ∧ 0 ≤ env xs 8 ∧ env xs 8 ≤ env xs 7
def muFr (xs : List Int) : Nat := (env xs 7 - env xs 8).toNat
def pFr : List Bool := [true,true,true,true,false,true,false]
def lbFr : LEnt := ⟨⟨9006, 999999, [wsh, lio, i64, i64], [wob], [], .tup [], z0, preFr⟩, [5, 22, 23, 24], [], [8, 9, 10] ++ (List.range 26).map (· + 24), [.ex 0], 50, []⟩
def cFr : Ctx := ⟨[e15, e17], []⟩
def cFrn : Ctx := cFr.nm

def defs_LFr : List (Nat × E) := [(640000096003392, (.app .x 100000015 0 [(.var .x 0), (.var (.i .i64) 1), (.var (.i .i64) 2), (.var (.i .i64) 3), (.var (.i .i64) 4), (.var .x 5)])),
  (640000096003393, (.app (.i .i64) 100000015 1 [(.var .x 0), (.var (.i .i64) 1), (.var (.i .i64) 2), (.var (.i .i64) 3), (.var (.i .i64) 4), (.var .x 5)])),
  (640000096003394, (.app (.i .i64) 100000015 2 [(.var .x 0), (.var (.i .i64) 1), (.var (.i .i64) 2), (.var (.i .i64) 3), (.var (.i .i64) 4), (.var .x 5)])),
  (640000096003395, (.app (.i .i64) 100000015 3 [(.var .x 0), (.var (.i .i64) 1), (.var (.i .i64) 2), (.var (.i .i64) 3), (.var (.i .i64) 4), (.var .x 5)])),
  (640000096003396, (.app (.i .i64) 100000015 4 [(.var .x 0), (.var (.i .i64) 1), (.var (.i .i64) 2), (.var (.i .i64) 3), (.var (.i .i64) 4), (.var .x 5)])),
  (640000096003397, (.app .x 100000015 5 [(.var .x 0), (.var (.i .i64) 1), (.var (.i .i64) 2), (.var (.i .i64) 3), (.var (.i .i64) 4), (.var .x 5)])),
  (640000096003398, (.app (.i .i64) 100000015 6 [(.var .x 0), (.var (.i .i64) 1), (.var (.i .i64) 2), (.var (.i .i64) 3), (.var (.i .i64) 4), (.var .x 5)])),
  (640000108803904, (.app .x 100000017 0 [(.var .x 640000096003392), (.var (.i .i64) 640000096003393), (.var (.i .i64) 640000096003394), (.var (.i .i64) 640000096003395), (.var (.i .i64) 640000096003396), (.var .x 640000096003397), (.lit (.i .i64) 1)])),
  (640000108803905, (.app (.i .i64) 100000017 1 [(.var .x 640000096003392), (.var (.i .i64) 640000096003393), (.var (.i .i64) 640000096003394), (.var (.i .i64) 640000096003395), (.var (.i .i64) 640000096003396), (.var .x 640000096003397), (.lit (.i .i64) 1)])),
  (640000108803906, (.app (.i .i64) 100000017 2 [(.var .x 640000096003392), (.var (.i .i64) 640000096003393), (.var (.i .i64) 640000096003394), (.var (.i .i64) 640000096003395), (.var (.i .i64) 640000096003396), (.var .x 640000096003397), (.lit (.i .i64) 1)])),
  (640000108803907, (.app (.i .i64) 100000017 3 [(.var .x 640000096003392), (.var (.i .i64) 640000096003393), (.var (.i .i64) 640000096003394), (.var (.i .i64) 640000096003395), (.var (.i .i64) 640000096003396), (.var .x 640000096003397), (.lit (.i .i64) 1)])),
  (640000108803908, (.app (.i .i64) 100000017 4 [(.var .x 640000096003392), (.var (.i .i64) 640000096003393), (.var (.i .i64) 640000096003394), (.var (.i .i64) 640000096003395), (.var (.i .i64) 640000096003396), (.var .x 640000096003397), (.lit (.i .i64) 1)])),
  (640000108803909, (.app .x 100000017 5 [(.var .x 640000096003392), (.var (.i .i64) 640000096003393), (.var (.i .i64) 640000096003394), (.var (.i .i64) 640000096003395), (.var (.i .i64) 640000096003396), (.var .x 640000096003397), (.lit (.i .i64) 1)])),
  (640000108803910, (.app .x 100000017 6 [(.var .x 640000096003392), (.var (.i .i64) 640000096003393), (.var (.i .i64) 640000096003394), (.var (.i .i64) 640000096003395), (.var (.i .i64) 640000096003396), (.var .x 640000096003397), (.lit (.i .i64) 1)])),
  (640000108803911, (.app (.i .i64) 100000017 7 [(.var .x 640000096003392), (.var (.i .i64) 640000096003393), (.var (.i .i64) 640000096003394), (.var (.i .i64) 640000096003395), (.var (.i .i64) 640000096003396), (.var .x 640000096003397), (.lit (.i .i64) 1)]))]
def q_LFr_0 : E := (.or (.cmp .neq (.var (.i .i64) 640000108803911) (.lit (.i .i64) 0)) (.cmp .neq (.app (.i .i64) 0 0 [(.var .x 640000108803910)]) (.lit (.i .i64) 1)))
def q_LFr_1 : E := (.or q_LFr_0 (.cmp .neq (.app (.i .i64) 0 1 [(.var .x 640000108803910), (.lit (.i .i64) 0), (.lit .x 0)]) (.app (.i .i64) 0 1 [(.var .x 6), (.var (.i .i64) 8), (.lit .x 0)])))
def q_LFr_2 : E := (.and (.cmp .lss (.var (.i .i64) 8) (.var (.i .i64) 7)) (.not q_LFr_1))
def ob_LFr : E := (.and (.and (.or (.not (.cmp .lss (.var (.i .i64) 8) (.var (.i .i64) 7))) (.and (.and (.cmp .geq (.var (.i .i64) 8) (.lit (.i .i64) 0)) (.cmp .lss (.var (.i .i64) 8) (.app (.i .i64) 0 0 [(.var .x 6)]))) (.and (.and (.app .b 100000015 1000000 [(.var .x 0), (.var (.i .i64) 1), (.var (.i .i64) 2), (.var (.i .i64) 3), (.var (.i .i64) 4), (.var .x 5)]) (dE defs_LFr 0 7)) (.and (.and (.app .b 100000017 1000000 [(.var .x 640000096003392), (.var (.i .i64) 640000096003393), (.var (.i .i64) 640000096003394), (.var (.i .i64) 640000096003395), (.var (.i .i64) 640000096003396), (.var .x 640000096003397), (.lit (.i .i64) 1)]) (dE defs_LFr 7 8)) (.or q_LFr_0 (.cmp .lss (.lit (.i .i64) 0) (.app (.i .i64) 0 0 [(.var .x 640000108803910)]))))))) (.or (.not q_LFr_2) (.app .b 9006 1000000 [(.var .x 640000108803904), (.var (.i .i64) 640000108803905), (.var (.i .i64) 640000108803906), (.var (.i .i64) 640000108803907), (.var (.i .i64) 640000108803908), (.var .x 640000108803909), (.var .x 6), (.var (.i .i64) 7), (.bin .add .i64 (.var (.i .i64) 8) (.lit (.i .i64) 1))]))) (.and (.or (.not (.or (.not (.cmp .lss (.var (.i .i64) 8) (.var (.i .i64) 7))) q_LFr_2)) (.ite (.not (.cmp .lss (.var (.i .i64) 8) (.var (.i .i64) 7))) (.not (.cmp .lss (.var (.i .i64) 8) (.var (.i .i64) 7))) (.cmp .lss (.var (.i .i64) 8) (.var (.i .i64) 7)))) (.not (.and (.cmp .lss (.var (.i .i64) 8) (.var (.i .i64) 7)) q_LFr_1))))
def es_LFr : List E := [(.ite (.not (.cmp .lss (.var (.i .i64) 8) (.var (.i .i64) 7))) (.var .x 0) (.app .x 9006 0 [(.var .x 640000108803904), (.var (.i .i64) 640000108803905), (.var (.i .i64) 640000108803906), (.var (.i .i64) 640000108803907), (.var (.i .i64) 640000108803908), (.var .x 640000108803909), (.var .x 6), (.var (.i .i64) 7), (.bin .add .i64 (.var (.i .i64) 8) (.lit (.i .i64) 1))])), (.ite (.not (.cmp .lss (.var (.i .i64) 8) (.var (.i .i64) 7))) (.var (.i .i64) 1) (.app (.i .i64) 9006 1 [(.var .x 640000108803904), (.var (.i .i64) 640000108803905), (.var (.i .i64) 640000108803906), (.var (.i .i64) 640000108803907), (.var (.i .i64) 640000108803908), (.var .x 640000108803909), (.var .x 6), (.var (.i .i64) 7), (.bin .add .i64 (.var (.i .i64) 8) (.lit (.i .i64) 1))])), (.ite (.not (.cmp .lss (.var (.i .i64) 8) (.var (.i .i64) 7))) (.var (.i .i64) 2) (.app (.i .i64) 9006 2 [(.var .x 640000108803904), (.var (.i .i64) 640000108803905), (.var (.i .i64) 640000108803906), (.var (.i .i64) 640000108803907), (.var (.i .i64) 640000108803908), (.var .x 640000108803909), (.var .x 6), (.var (.i .i64) 7), (.bin .add .i64 (.var (.i .i64) 8) (.lit (.i .i64) 1))])), (.ite (.not (.cmp .lss (.var (.i .i64) 8) (.var (.i .i64) 7))) (.var (.i .i64) 3) (.app (.i .i64) 9006 3 [(.var .x 640000108803904), (.var (.i .i64) 640000108803905), (.var (.i .i64) 640000108803906), (.var (.i .i64) 640000108803907), (.var (.i .i64) 640000108803908), (.var .x 640000108803909), (.var .x 6), (.var (.i .i64) 7), (.bin .add .i64 (.var (.i .i64) 8) (.lit (.i .i64) 1))])), (.ite (.not (.cmp .lss (.var (.i .i64) 8) (.var (.i .i64) 7))) (.var (.i .i64) 4) (.app (.i .i64) 9006 4 [(.var .x 640000108803904), (.var (.i .i64) 640000108803905), (.var (.i .i64) 640000108803906), (.var (.i .i64) 640000108803907), (.var (.i .i64) 640000108803908), (.var .x 640000108803909), (.var .x 6), (.var (.i .i64) 7), (.bin .add .i64 (.var (.i .i64) 8) (.lit (.i .i64) 1))])), (.ite (.not (.cmp .lss (.var (.i .i64) 8) (.var (.i .i64) 7))) (.var .x 5) (.app .x 9006 5 [(.var .x 640000108803904), (.var (.i .i64) 640000108803905), (.var (.i .i64) 640000108803906), (.var (.i .i64) 640000108803907), (.var (.i .i64) 640000108803908), (.var .x 640000108803909), (.var .x 6), (.var (.i .i64) 7), (.bin .add .i64 (.var (.i .i64) 8) (.lit (.i .i64) 1))]))]
def leFr : LEnt := lbFr.fw (fnL lbFr cFrn.l ob_LFr es_LFr postN muFr)
theorem ev_LFr : evL Try.prog G0 (tabOf cFrn.fs) (evFn Try.prog G0 (tabOf cFrn.fs) (ltOf cFrn.ls) 40 10) 40 (subL cFrn.ls 6 pFr) leFr (bodyAt Try.prog 6 pFr) = some (ob_LFr, es_LFr) := by kernel_rfl

def b6 : Ent := ⟨6, 6, [numS, acts], [], [0], .lt .b 1, z0, preA4⟩
def cX6 : Ctx := ⟨[e22, e28, e31], [(6, pFr, leFr)]⟩
def cX6n : Ctx := cX6.nm

def defs_6 : List (Nat × E) := [(640000179200576, (.app .x 100000028 0 [(.var (.i .u8) 0), (.var (.i .u8) 1), (.var (.i .i64) 2), (.var (.i .i64) 3), (.var .x 4)])),
  (640000179200577, (.app (.i .i64) 100000028 1 [(.var (.i .u8) 0), (.var (.i .u8) 1), (.var (.i .i64) 2), (.var (.i .i64) 3), (.var .x 4)])),
  (640000179200578, (.app (.i .i64) 100000028 2 [(.var (.i .u8) 0), (.var (.i .u8) 1), (.var (.i .i64) 2), (.var (.i .i64) 3), (.var .x 4)])),
  (640000179200579, (.app (.i .i64) 100000028 3 [(.var (.i .u8) 0), (.var (.i .u8) 1), (.var (.i .i64) 2), (.var (.i .i64) 3), (.var .x 4)])),
  (640000179200580, (.app (.i .i64) 100000028 4 [(.var (.i .u8) 0), (.var (.i .u8) 1), (.var (.i .i64) 2), (.var (.i .i64) 3), (.var .x 4)])),
  (640000179200581, (.app .x 100000028 5 [(.var (.i .u8) 0), (.var (.i .u8) 1), (.var (.i .i64) 2), (.var (.i .i64) 3), (.var .x 4)])),
  (640000198401088, (.app .x 100000031 0 [(.var .x 640000179200576), (.var (.i .i64) 640000179200577), (.var (.i .i64) 640000179200578), (.var (.i .i64) 640000179200579), (.var (.i .i64) 640000179200580), (.var .x 640000179200581)])),
  (640057638401600, (.app .x 100009006 0 [(.var .x 640000179200576), (.var (.i .i64) 640000179200577), (.var (.i .i64) 640000179200578), (.var (.i .i64) 640000179200579), (.var (.i .i64) 640000179200580), (.var .x 640000179200581), (.var .x 640000198401088), (.app (.i .i64) 0 0 [(.var .x 640000198401088)]), (.lit (.i .i64) 0)])),
  (640057638401601, (.app (.i .i64) 100009006 1 [(.var .x 640000179200576), (.var (.i .i64) 640000179200577), (.var (.i .i64) 640000179200578), (.var (.i .i64) 640000179200579), (.var (.i .i64) 640000179200580), (.var .x 640000179200581), (.var .x 640000198401088), (.app (.i .i64) 0 0 [(.var .x 640000198401088)]), (.lit (.i .i64) 0)])),
  (640057638401602, (.app (.i .i64) 100009006 2 [(.var .x 640000179200576), (.var (.i .i64) 640000179200577), (.var (.i .i64) 640000179200578), (.var (.i .i64) 640000179200579), (.var (.i .i64) 640000179200580), (.var .x 640000179200581), (.var .x 640000198401088), (.app (.i .i64) 0 0 [(.var .x 640000198401088)]), (.lit (.i .i64) 0)])),
  (640057638401603, (.app (.i .i64) 100009006 3 [(.var .x 640000179200576), (.var (.i .i64) 640000179200577), (.var (.i .i64) 640000179200578), (.var (.i .i64) 640000179200579), (.var (.i .i64) 640000179200580), (.var .x 640000179200581), (.var .x 640000198401088), (.app (.i .i64) 0 0 [(.var .x 640000198401088)]), (.lit (.i .i64) 0)])),
  (640057638401604, (.app (.i .i64) 100009006 4 [(.var .x 640000179200576), (.var (.i .i64) 640000179200577), (.var (.i .i64) 640000179200578), (.var (.i .i64) 640000179200579), (.var (.i .i64) 640000179200580), (.var .x 640000179200581), (.var .x 640000198401088), (.app (.i .i64) 0 0 [(.var .x 640000198401088)]), (.lit (.i .i64) 0)])),
  (640057638401605, (.app .x 100009006 5 [(.var .x 640000179200576), (.var (.i .i64) 640000179200577), (.var (.i .i64) 640000179200578), (.var (.i .i64) 640000179200579), (.var (.i .i64) 640000179200580), (.var .x 640000179200581), (.var .x 640000198401088), (.app (.i .i64) 0 0 [(.var .x 640000198401088)]), (.lit (.i .i64) 0)]))]
def ob_6 : E := (.and (.app .b 100000022 1000000 []) (.and (.and (.app .b 100000028 1000000 [(.var (.i .u8) 0), (.var (.i .u8) 1), (.var (.i .i64) 2), (.var (.i .i64) 3), (.var .x 4)]) (dE defs_6 0 6)) (.and (.and (.app .b 100000031 1000000 [(.var .x 640000179200576), (.var (.i .i64) 640000179200577), (.var (.i .i64) 640000179200578), (.var (.i .i64) 640000179200579), (.var (.i .i64) 640000179200580), (.var .x 640000179200581)]) (dE defs_6 6 1)) (.and (.app .b 100009006 1000000 [(.var .x 640000179200576), (.var (.i .i64) 640000179200577), (.var (.i .i64) 640000179200578), (.var (.i .i64) 640000179200579), (.var (.i .i64) 640000179200580), (.var .x 640000179200581), (.var .x 640000198401088), (.app (.i .i64) 0 0 [(.var .x 640000198401088)]), (.lit (.i .i64) 0)]) (dE defs_6 7 6)))))
def es_6 : List E := []
def e6 : Ent := b6.fw (fnR cX6n.l.F b6.np ob_6 es_6 postN)
theorem ev_6 : evE Try.prog G0 (tabOf cX6n.fs) (ltOf cX6n.ls) 40 10 e6 = some (ob_6, es_6) := by kernel_rfl

theorem cFrok : cFr.OK Try.prog G0 := (Ctx.OK.nil.addF ok17 rfl).addF ok15 rfl

set_option maxHeartbeats 1000000 in
theorem okFr : ItemOK Try.prog G0 6 pFr leFr ∧ PostOK leFr.ent postN := by
  refine cFrok.nm.loopH mixed rfl ⟨_, _, _, Try.func6, rfl, rfl⟩ ev_LFr (by kernel_rfl) _ rfl fun xs hf hp φ hφ => ?_
  obtain ⟨l, hl, hS, hF⟩ := self_H lbFr φ muFr (muFr xs) cFrn.l (by decide)
  show ∃ ρ : Nat → Int, _ ∧ ob_LFr.tt (Tabs.F (enH lbFr φ muFr (muFr xs) :: cFrn.l)) ρ = true ∧ postN xs (es_LFr.map (E.den (Tabs.F (enH lbFr φ muFr (muFr xs) :: cFrn.l)) ρ))
  rw [hl]
  replace hφ : ∀ ys, fits [.x, (.i .i64), (.i .i64), (.i .i64), (.i .i64), .x, .x, (.i .i64), (.i .i64)] ys → lbFr.ent.pre ys → muFr ys < muFr xs → postN ys (outsE φ ys 0 lbFr.ent.oks) := hφ
  have F9006 := FC (k := 9006) rfl hS
  have F15 := FC (k := 100000015) rfl (hF e15.nm (by rfl) (by decide) (by decide))
  have F17 := FC (k := 100000017) rfl (hF e17.nm (by rfl) (by decide) (by decide))
  replace hf : fits [.x, (.i .i64), (.i .i64), (.i .i64), (.i .i64), .x, .x, (.i .i64), (.i .i64)] xs := hf
  obtain ⟨S, xs0, hx0, hS, hf0⟩ := fits_cons hf
  obtain ⟨now, xs1, hx1, hnow, hf1⟩ := fits_cons hf0
  obtain ⟨bu, xs2, hx2, hbu, hf2⟩ := fits_cons hf1
  obtain ⟨le, xs3, hx3, hle, hf3⟩ := fits_cons hf2
  obtain ⟨mo, xs4, hx4, hmo, hf4⟩ := fits_cons hf3
  obtain ⟨T, xs5, hx5, hT, hf5⟩ := fits_cons hf4
  obtain ⟨L, xs6, hx6, hL, hf6⟩ := fits_cons hf5
  obtain ⟨n, xs7, hx7, hn, hf7⟩ := fits_cons hf6
  obtain ⟨i, xs8, hx8, hi, hf8⟩ := fits_cons hf7
  have hxn := fits_nil hf8
  subst hxn hx8 hx7 hx6 hx5 hx4 hx3 hx2 hx1 hx0
  simp only [norm_i] at hnow hbu hle hmo hn hi
  obtain ⟨ρ, hρ, hd⟩ := solve (F := l.F) 9 defs_LFr (by kernel_rfl) [S, now, bu, le, mo, T, L, n, i]
  have hDf := dE_tt (by kernel_rfl) hd
  refine ⟨ρ, hρ, ?_⟩
  have r0 : ρ 0 = S := hρ 0 (by decide)
  have r1 : ρ 1 = now := hρ 1 (by decide)
  have r2 : ρ 2 = bu := hρ 2 (by decide)
  have r3 : ρ 3 = le := hρ 3 (by decide)
  have r4 : ρ 4 = mo := hρ 4 (by decide)
  have r5 : ρ 5 = T := hρ 5 (by decide)
  have r6 : ρ 6 = L := hρ 6 (by decide)
  have r7 : ρ 7 = n := hρ 7 (by decide)
  have r8 : ρ 8 = i := hρ 8 (by decide)
  obtain ⟨v1, hv1, hd1, hn1⟩ := nmd hd 0 rfl
  obtain ⟨v2, hv2, hd2, hn2⟩ := nmd hd 1 rfl
  obtain ⟨v3, hv3, hd3, hn3⟩ := nmd hd 2 rfl
  obtain ⟨v4, hv4, hd4, hn4⟩ := nmd hd 3 rfl
  obtain ⟨v5, hv5, hd5, hn5⟩ := nmd hd 4 rfl
  obtain ⟨v6, hv6, hd6, hn6⟩ := nmd hd 5 rfl
  obtain ⟨v7, hv7, hd7, hn7⟩ := nmd hd 6 rfl
  obtain ⟨v8, hv8, hd8, hn8⟩ := nmd hd 7 rfl
  obtain ⟨v9, hv9, hd9, hn9⟩ := nmd hd 8 rfl
  obtain ⟨v10, hv10, hd10, hn10⟩ := nmd hd 9 rfl
  obtain ⟨v11, hv11, hd11, hn11⟩ := nmd hd 10 rfl
  obtain ⟨v12, hv12, hd12, hn12⟩ := nmd hd 11 rfl
  obtain ⟨v13, hv13, hd13, hn13⟩ := nmd hd 12 rfl
  obtain ⟨v14, hv14, hd14, hn14⟩ := nmd hd 13 rfl
  obtain ⟨v15, hv15, hd15, hn15⟩ := nmd hd 14 rfl
  simp only [norm_i] at hn2 hn3 hn4 hn5 hn7 hn9 hn10 hn11 hn12 hn15
  simp (disch := omega) only [norm_i, F15, F17, Ent.nm_fn, r0, r1, hnow, r2, hbu, r3, hle, r4, hmo, r5, r6, r7, hn, r8, hi, hv1, hv2, hn2, hv3, hn3, hv4, hn4, hv5, hn5, hv6, hv7, hn7, hv8, hv9, hn9, hv10, hn10, hv11, hn11, hv12, hn12, hv13, hv14, hv15, hn15, ewA, ewL, preC, binI, dvI, shI, cmpB, env, bi, List.headD, List.tail, List.map, Nat.reduceAdd, ewR, ewB, ewM, if_true, if_false, implies_true, forall_const, ne_eq, reduceCtorEq, Int.reduceEq, Int.reduceLT, Int.reduceLE, Int.reduceToNat, Int.reduceAdd, Int.reduceSub, Int.reduceMul, Int.reduceNeg, Int.reduceBEq, Nat.reduceLT, Nat.reduceEqDiff] at hd1 hd2 hd3 hd4 hd5 hd6 hd7 hd8 hd9 hd10 hd11 hd12 hd13 hd14 hd15
  have hSS := And.intro (And.intro (And.intro (And.intro (And.intro F9006 F15) (And.intro F17 (And.intro r0 r1))) (And.intro (And.intro hnow (And.intro r2 hbu)) (And.intro r3 (And.intro hle r4)))) (And.intro (And.intro (And.intro hmo r5) (And.intro r6 (And.intro r7 hn))) (And.intro (And.intro r8 (And.intro hi hv1)) (And.intro hv2 (And.intro hn2 hv3))))) (And.intro (And.intro (And.intro (And.intro hn3 hv4) (And.intro hn4 (And.intro hv5 hn5))) (And.intro (And.intro hv6 (And.intro hv7 hn7)) (And.intro hv8 (And.intro hv9 hn9)))) (And.intro (And.intro (And.intro hv10 hn10) (And.intro hv11 (And.intro hn11 hv12))) (And.intro (And.intro hn12 (And.intro hv13 hv14)) (And.intro hv15 (And.intro hn15 hDf)))))
  obtain ⟨⟨c, d, B, E, l0, hw, p1, p2, p3, p4⟩, p5, p6, p7⟩ := hp
  replace hw : WV S now bu le mo T c d B := hw
  replace p1 : dc L = idR l0 := p1
  replace p2 : n = (l0.length : Int) := p2
  replace p4 : B = l0.drop i.toNat ++ E := p4
  simp only [ewA, ewL, preC, binI, dvI, shI, cmpB, env, bi, List.headD, List.tail, List.map, Nat.reduceAdd] at p5 p6 p7
  have hbg := hw.bg
  have hct := hw.ct
  have y15 : e15.pre [S, now, bu, le, mo, T] := hw.wx
  by_cases hi : i < n
  · obtain ⟨D, q1, q2, q3, q4, q5, q6, q7, q8, q9, q10⟩ := hw.tick (by omega) ⟨hd1, hd2, hd3, hd4, hd5, hd6, hd7, trivial⟩
    obtain ⟨t1, t2, t3, t4, t5, t6, t7, t8⟩ := q1.take (k := 1) (by decide) ⟨hd8, hd9, hd10, hd11, hd12, hd13, hd14, hd15, trivial⟩
    have hil : i.toNat < l0.length := by omega
    obtain ⟨k, hk⟩ : ∃ k, l0[i.toNat] = k := ⟨_, rfl⟩
    have hdr : l0.drop i.toNat = k :: l0.drop (i + 1).toNat := by
      rw [List.drop_eq_getElem_cons hil, hk, show (i + 1).toNat = i.toNat + 1 by omega]
    have hBk : B ++ D = k :: (l0.drop (i + 1).toNat ++ (E ++ D)) := by rw [p4, hdr]; simp
    have e1 : (B ++ D).take (1 : Int).toNat = [k] := by rw [hBk]; rfl
    have e2 : (B ++ D).drop (1 : Int).toNat = l0.drop (i + 1).toNat ++ (E ++ D) := by rw [hBk]; rfl
    rw [e1] at t6
    rw [e2] at t1
    have hkc : k < 4096 := by
      have := ((q1.mem k).1 (by rw [hBk]; simp)).1
      omega
    have er : (dc L).getD i.toNat [] = [(k : Int)] := by
      rw [p1]; unfold idR; simp [List.getD, hil, hk]
    have wk : IntKind.i64.wrap (k : Int) = (k : Int) := i64w (by omega) (by omega)
    have hl1 : (dc v14).length = 1 := by rw [t6]; rfl
    have hg1 : (dc v14).getD 0 [] = [(k : Int)] := by rw [t6]; rfl
    have hLl : (dc L).length = l0.length := by rw [p1]; unfold idR; rw [List.length_map]
    subst t5
    have yp : lbFr.ent.pre [v8, v9, v10, v11, v12, v13, L, n, i + 1] := ⟨⟨c, _, _, E ++ D, l0, t1, p1, p2, p3, rfl⟩, by show v12 + 4096 * (n - (i + 1)) ≤ _; omega, by show 0 ≤ i + 1; omega, by show i + 1 ≤ n; omega⟩
    have ym : muFr [v8, v9, v10, v11, v12, v13, L, n, i + 1] < muFr [S, now, bu, le, mo, T, L, n, i] := by show (n - (i + 1)).toNat < (n - i).toNat; omega
    have y17 : e17.pre [v1, v2, v3, v4, v5, v6, 1] := q1.wx1 _
    refine ⟨?_, trivial⟩
    simp (disch := omega) only [ob_LFr, q_LFr_0, q_LFr_1, q_LFr_2, ewA, ewL, preC, binI, dvI, shI, cmpB, env, bi, List.headD, List.tail, List.map, Nat.reduceAdd, ewR, ewB, ewM, if_true, if_false, implies_true, forall_const, ne_eq, reduceCtorEq, Int.reduceEq, Int.reduceLT, Int.reduceLE, Int.reduceToNat, Int.reduceAdd, Int.reduceSub, Int.reduceMul, Int.reduceNeg, Int.reduceBEq, Nat.reduceLT, Nat.reduceEqDiff, hSS, hi, er, wk, hl1, hg1, hLl, y15, y17]
    repeat' (first | (with_reducible apply And.intro) | (with_reducible intro _))
    all_goals first | with_reducible assumption | trivial | omega | (split <;> omega)
  · refine ⟨?_, trivial⟩
    simp (disch := omega) only [ob_LFr, q_LFr_0, q_LFr_1, q_LFr_2, ewA, ewL, preC, binI, dvI, shI, cmpB, env, bi, List.headD, List.tail, List.map, Nat.reduceAdd, ewR, ewB, ewM, if_true, if_false, implies_true, forall_const, ne_eq, reduceCtorEq, Int.reduceEq, Int.reduceLT, Int.reduceLE, Int.reduceToNat, Int.reduceAdd, Int.reduceSub, Int.reduceMul, Int.reduceNeg, Int.reduceBEq, Nat.reduceLT, Nat.reduceEqDiff, hSS, hi]

theorem cX6ok : cX6.OK Try.prog G0 := Ctx.OK.addL (c := ⟨[e22, e28, e31], []⟩) (((Ctx.OK.nil.addF ok31 rfl).addF ok28.1 rfl).addF ok22 rfl) okFr.1 rfl

set_option maxHeartbeats 1000000 in
theorem ok6 : EntryOK Try.prog G0 e6 ∧ PostOK e6 postN := by
  refine cX6ok.nm.entryH mixed ev_6 (by kernel_rfl) _ rfl fun xs hf hp => ?_
  obtain ⟨l, hl, hF⟩ := ctx_P (l0 := cX6n.l)
  show ∃ ρ : Nat → Int, _ ∧ ob_6.tt cX6n.l.F ρ = true ∧ postN xs (es_6.map (E.den cX6n.l.F ρ))
  rw [hl]
  have F22 := FC (k := 100000022) rfl (hF e22.nm (by rfl) (by decide))
  have F28 := FC (k := 100000028) rfl (hF e28.nm (by rfl) (by decide))
  have F31 := FC (k := 100000031) rfl (hF e31.nm (by rfl) (by decide))
  have F9006 := FC (k := 100009006) rfl (hF leFr.nm.ent (by rfl) (by decide))
  replace hf : fits [(.i .u8), (.i .u8), (.i .i64), (.i .i64), .x] xs := hf
  obtain ⟨nb, xs0, hx0, hnb, hf0⟩ := fits_cons hf
  obtain ⟨ns, xs1, hx1, hns, hf1⟩ := fits_cons hf0
  obtain ⟨nn, xs2, hx2, hnn, hf2⟩ := fits_cons hf1
  obtain ⟨nc, xs3, hx3, hnc, hf3⟩ := fits_cons hf2
  obtain ⟨A, xs4, hx4, hA, hf4⟩ := fits_cons hf3
  have hxn := fits_nil hf4
  subst hxn hx4 hx3 hx2 hx1 hx0
  simp only [norm_i] at hnb hns hnn hnc
  obtain ⟨ρ, hρ, hd⟩ := solve (F := l.F) 5 defs_6 (by kernel_rfl) [nb, ns, nn, nc, A]
  have hDf := dE_tt (by kernel_rfl) hd
  refine ⟨ρ, hρ, ?_⟩
  have r0 : ρ 0 = nb := hρ 0 (by decide)
  have r1 : ρ 1 = ns := hρ 1 (by decide)
  have r2 : ρ 2 = nn := hρ 2 (by decide)
  have r3 : ρ 3 = nc := hρ 3 (by decide)
  have r4 : ρ 4 = A := hρ 4 (by decide)
  obtain ⟨v1, hv1, hd1, hn1⟩ := nmd hd 0 rfl
  obtain ⟨v2, hv2, hd2, hn2⟩ := nmd hd 1 rfl
  obtain ⟨v3, hv3, hd3, hn3⟩ := nmd hd 2 rfl
  obtain ⟨v4, hv4, hd4, hn4⟩ := nmd hd 3 rfl
  obtain ⟨v5, hv5, hd5, hn5⟩ := nmd hd 4 rfl
  obtain ⟨v6, hv6, hd6, hn6⟩ := nmd hd 5 rfl
  obtain ⟨v7, hv7, hd7, hn7⟩ := nmd hd 6 rfl
  obtain ⟨v8, hv8, hd8, hn8⟩ := nmd hd 7 rfl
  obtain ⟨v9, hv9, hd9, hn9⟩ := nmd hd 8 rfl
  obtain ⟨v10, hv10, hd10, hn10⟩ := nmd hd 9 rfl
  obtain ⟨v11, hv11, hd11, hn11⟩ := nmd hd 10 rfl
  obtain ⟨v12, hv12, hd12, hn12⟩ := nmd hd 11 rfl
  obtain ⟨v13, hv13, hd13, hn13⟩ := nmd hd 12 rfl
  simp only [norm_i] at hn2 hn3 hn4 hn5 hn9 hn10 hn11 hn12
  simp (disch := omega) only [norm_i, F28, F31, F9006, Ent.nm_fn, r0, hnb, r1, hns, r2, hnn, r3, hnc, r4, hv1, hv2, hn2, hv3, hn3, hv4, hn4, hv5, hn5, hv6, hv7, hv8, hv9, hn9, hv10, hn10, hv11, hn11, hv12, hn12, hv13, ewA, ewL, preC, binI, dvI, shI, cmpB, env, bi, List.headD, List.tail, List.map, Nat.reduceAdd, ewR, ewB, ewM, if_true, if_false, implies_true, forall_const, ne_eq, reduceCtorEq, Int.reduceEq, Int.reduceLT, Int.reduceLE, Int.reduceToNat, Int.reduceAdd, Int.reduceSub, Int.reduceMul, Int.reduceNeg, Int.reduceBEq, Nat.reduceLT, Nat.reduceEqDiff] at hd1 hd2 hd3 hd4 hd5 hd6 hd7 hd8 hd9 hd10 hd11 hd12 hd13
  have hSS := And.intro (And.intro (And.intro (And.intro (And.intro F22 F28) (And.intro F31 F9006)) (And.intro (And.intro r0 hnb) (And.intro r1 hns))) (And.intro (And.intro (And.intro r2 hnn) (And.intro r3 hnc)) (And.intro (And.intro r4 hv1) (And.intro hv2 (And.intro hn2 hv3))))) (And.intro (And.intro (And.intro (And.intro hn3 hv4) (And.intro hn4 hv5)) (And.intro (And.intro hn5 hv6) (And.intro hv7 (And.intro hv8 hv9)))) (And.intro (And.intro (And.intro hn9 hv10) (And.intro hn10 hv11)) (And.intro (And.intro hn11 hv12) (And.intro hn12 (And.intro hv13 hDf)))))
  have y28 : e28.pre [nb, ns, nn, nc, A] := hp
  have y22 : e22.pre [] := trivial
  obtain ⟨⟨d, B, hw⟩, i2, i3, i4⟩ := (PostOK.use (ks := [(.i .u8), (.i .u8), (.i .i64), (.i .i64), .x]) (os := [.x, (.i .i64), (.i .i64), (.i .i64), (.i .i64), .x]) (vs := [v1, v2, v3, v4, v5, v6]) ok28.2 rfl rfl ⟨hd1, hd2, hd3, hd4, hd5, hd6, trivial⟩) ⟨(by first | rfl | assumption | exact i64w (by omega) (by omega) | exact u8w (by omega) (by omega)), (by first | rfl | assumption | exact i64w (by omega) (by omega) | exact u8w (by omega) (by omega)), (by first | rfl | assumption | exact i64w (by omega) (by omega) | exact u8w (by omega) (by omega)), (by first | rfl | assumption | exact i64w (by omega) (by omega) | exact u8w (by omega) (by omega)), rfl, trivial⟩ y28
  replace hw : WV v1 v2 v3 v4 v5 v6 (capF [nb, ns, nn, nc]) d B := hw
  replace i4 : 0 ≤ v5 ∧ v5 ≤ 36864000 := i4
  have hct := hw.ct
  have y31 : e31.pre [v1, v2, v3, v4, v5, v6] := hw.wx
  have hv7 : dc v7 = idR B := by rw [hd7]; exact hw.ids
  have hlB := hw.lenB
  have hl : (dc v7).length = B.length := by rw [hv7]; unfold idR; rw [List.length_map]
  have wB : IntKind.i64.wrap (B.length : Int) = (B.length : Int) := i64w (by omega) (by omega)
  have yp : leFr.ent.pre [v1, v2, v3, v4, v5, v6, v7, (B.length : Int), 0] := ⟨⟨_, d, B, [], B, hw, hv7, rfl, by omega, by show B = B.drop 0 ++ []; simp⟩, by show v5 + 4096 * ((B.length : Int) - 0) ≤ _; omega, by show (0 : Int) ≤ 0; decide, by show 0 ≤ (B.length : Int); omega⟩
  refine ⟨?_, trivial⟩
  simp (disch := omega) only [ob_6, ewA, ewL, preC, binI, dvI, shI, cmpB, env, bi, List.headD, List.tail, List.map, Nat.reduceAdd, ewR, ewB, ewM, if_true, if_false, implies_true, forall_const, ne_eq, reduceCtorEq, Int.reduceEq, Int.reduceLT, Int.reduceLE, Int.reduceToNat, Int.reduceAdd, Int.reduceSub, Int.reduceMul, Int.reduceNeg, Int.reduceBEq, Nat.reduceLT, Nat.reduceEqDiff, hSS, hl, wB]
  repeat' (first | (with_reducible apply And.intro) | (with_reducible intro _))
  all_goals first | with_reducible assumption | trivial | omega | (split <;> omega)

end
end Go.Proofs.Ytfhheeoejncfgaa.Ew
