/- Layer 18: WheelOrder. -/
import Derived.Test.YtfhheeoejncfgaaKb
import Derived.Test.YtfhheeoejncfgaaHr
import Derived.Test.YtfhheeoejncfgaaHz
set_option linter.unusedVariables false
set_option linter.unusedSimpArgs false
namespace Go.Proofs.Ytfhheeoejncfgaa.Ew
open Go Go.RowKit
noncomputable section
--P Try.prog G0
--K 31 e31
--K 37 e37
--K 38 e38

def idR (l : List Nat) : RL := l.map fun i : Nat => [(i : Int)]
def pO1 : List Bool := [true,true,true,true,true,true,false,true,false]
def preO1 (xs : List Int) : Prop := ∃ c d B, WV (env xs 0) (env xs 1) (env xs 2) (env xs 3) (env xs 4) (env xs 5) c d B ∧ dc (env xs 7) = idR B ∧ env xs 8 = (B.length : Int) ∧ 0 ≤ env xs 9 ∧ env xs 9 ≤ env xs 8 ∧ ∀ i ∈ B.drop (env xs 9).toNat, env xs 6 ≤ d i
def muO1 (xs : List Int) : Nat := (env xs 8 - env xs 9).toNat
def lbO1 : LEnt := ⟨⟨9011, 999999, [wsh, i64, lsI, i64, i64], [], [0, 1, 2], .tup [], z0, preO1⟩, [7, 11, 38, 39, 40], [], [11, 13, 14, 15] ++ (List.range 25).map (· + 40), [.ex 0], 144, [38]⟩
def cO1 : Ctx := ⟨[e29, e18], []⟩
def cO1n : Ctx := cO1.nm

def a_LO1_0 : List E := [(.var .x 0), (.var (.i .i64) 1), (.var (.i .i64) 2), (.var (.i .i64) 3), (.var (.i .i64) 4), (.var .x 5), (.app (.i .i64) 0 1 [(.var .x 7), (.var (.i .i64) 9), (.lit .x 0)])]
def defs_LO1 : List (Nat × E) := [(640000185609408, (.app (.i .i64) 100000029 0 a_LO1_0)),
  (640000185609409, (.app .b 100000029 1 a_LO1_0)),
  (640000115209408, (.app (.i .i64) 100000018 0 [(.var .x 0), (.var (.i .i64) 1), (.var (.i .i64) 2), (.var (.i .i64) 3), (.var (.i .i64) 4), (.var .x 5)]))]
def q_LO1_0 : E := (.or (.or (.not (.var .b 640000185609409)) (.cmp .gtr (.var (.i .i64) 640000185609408) (.var (.i .i64) 640000115209408))) (.cmp .lss (.var (.i .i64) 640000185609408) (.var (.i .i64) 6)))
def ob_LO1 : E := (.and (.and (.or (.not (.cmp .lss (.var (.i .i64) 9) (.var (.i .i64) 8))) (.and (.and (.cmp .geq (.var (.i .i64) 9) (.lit (.i .i64) 0)) (.cmp .lss (.var (.i .i64) 9) (.app (.i .i64) 0 0 [(.var .x 7)]))) (.and (.and (.app .b 100000029 1000000 [(.var .x 0), (.var (.i .i64) 1), (.var (.i .i64) 2), (.var (.i .i64) 3), (.var (.i .i64) 4), (.var .x 5), (.app (.i .i64) 0 1 [(.var .x 7), (.var (.i .i64) 9), (.lit .x 0)])]) (dE defs_LO1 0 2)) (.or (.not (.var .b 640000185609409)) (.and (.app .b 100000018 1000000 [(.var .x 0), (.var (.i .i64) 1), (.var (.i .i64) 2), (.var (.i .i64) 3), (.var (.i .i64) 4), (.var .x 5)]) (dE defs_LO1 2 1)))))) (.or (.not (.and (.cmp .lss (.var (.i .i64) 9) (.var (.i .i64) 8)) (.not q_LO1_0))) (.app .b 9011 1000000 [(.var .x 0), (.var (.i .i64) 1), (.var (.i .i64) 2), (.var (.i .i64) 3), (.var (.i .i64) 4), (.var .x 5), (.var (.i .i64) 640000185609408), (.var .x 7), (.var (.i .i64) 8), (.bin .add .i64 (.var (.i .i64) 9) (.lit (.i .i64) 1))]))) (.not (.and (.cmp .lss (.var (.i .i64) 9) (.var (.i .i64) 8)) q_LO1_0)))
def es_LO1 : List E := []
def leO1 : LEnt := lbO1.fw (fnL lbO1 cO1n.l ob_LO1 es_LO1 postN muO1)
theorem ev_LO1 : evL Try.prog G0 (tabOf cO1n.fs) (evFn Try.prog G0 (tabOf cO1n.fs) (ltOf cO1n.ls) 40 10) 40 (subL cO1n.ls 11 pO1) leO1 (bodyAt Try.prog 11 pO1) = some (ob_LO1, es_LO1) := by kernel_rfl

def pO2 : List Bool := [true,true,true,true,true,true,true,true,true,true,true,true,false,true,false]
def preO2 (xs : List Int) : Prop := ∃ c d B l, WV (env xs 0) (env xs 1) (env xs 2) (env xs 3) (env xs 4) (env xs 5) c d B ∧ dc (env xs 7) = idR l ∧ env xs 8 = (l.length : Int) ∧ l.length ≤ 4096 ∧ 0 ≤ env xs 9 ∧ env xs 9 ≤ env xs 8 ∧ 0 ≤ env xs 6 ∧ ∀ j : Nat, j < l.length → (l.getD j 0 : Int) < c ∧ (d (l.getD j 0) ≠ 0 ↔ env xs 6 ≤ (j : Int))
def lbO2 : LEnt := ⟨⟨9111, 999999, [wsh, i64, lsI, i64, i64], [], [0, 1, 2], .tup [], z0, preO2⟩, [7, 17, 125, 126, 127], [], [20, 21, 22, 23] ++ (List.range 17).map (· + 127), [.ex 2], 144, [125]⟩
def cO2 : Ctx := ⟨[e29], []⟩
def cO2n : Ctx := cO2.nm

def a_LO2_0 : List E := [(.var .x 0), (.var (.i .i64) 1), (.var (.i .i64) 2), (.var (.i .i64) 3), (.var (.i .i64) 4), (.var .x 5), (.app (.i .i64) 0 1 [(.var .x 7), (.var (.i .i64) 9), (.lit .x 0)])]
def defs_LO2 : List (Nat × E) := [(640000185609408, (.app (.i .i64) 100000029 0 a_LO2_0)),
  (640000185609409, (.app .b 100000029 1 a_LO2_0))]
def q_LO2_0 : E := (.cmp .eql (.var .b 640000185609409) (.cmp .geq (.var (.i .i64) 9) (.var (.i .i64) 6)))
def ob_LO2 : E := (.and (.and (.or (.not (.cmp .lss (.var (.i .i64) 9) (.var (.i .i64) 8))) (.and (.and (.cmp .geq (.var (.i .i64) 9) (.lit (.i .i64) 0)) (.cmp .lss (.var (.i .i64) 9) (.app (.i .i64) 0 0 [(.var .x 7)]))) (.and (.app .b 100000029 1000000 [(.var .x 0), (.var (.i .i64) 1), (.var (.i .i64) 2), (.var (.i .i64) 3), (.var (.i .i64) 4), (.var .x 5), (.app (.i .i64) 0 1 [(.var .x 7), (.var (.i .i64) 9), (.lit .x 0)])]) (dE defs_LO2 0 2)))) (.or (.not (.and (.cmp .lss (.var (.i .i64) 9) (.var (.i .i64) 8)) q_LO2_0)) (.app .b 9111 1000000 [(.var .x 0), (.var (.i .i64) 1), (.var (.i .i64) 2), (.var (.i .i64) 3), (.var (.i .i64) 4), (.var .x 5), (.var (.i .i64) 6), (.var .x 7), (.var (.i .i64) 8), (.bin .add .i64 (.var (.i .i64) 9) (.lit (.i .i64) 1))]))) (.not (.and (.cmp .lss (.var (.i .i64) 9) (.var (.i .i64) 8)) (.not q_LO2_0))))
def es_LO2 : List E := []
def leO2 : LEnt := lbO2.fw (fnL lbO2 cO2n.l ob_LO2 es_LO2 postN muO1)
theorem ev_LO2 : evL Try.prog G0 (tabOf cO2n.fs) (evFn Try.prog G0 (tabOf cO2n.fs) (ltOf cO2n.ls) 40 10) 40 (subL cO2n.ls 11 pO2) leO2 (bodyAt Try.prog 11 pO2) = some (ob_LO2, es_LO2) := by kernel_rfl

def b11 : Ent := ⟨11, 11, [numS, acts, i64], [], [0], .lt .b 1, z0, preA4⟩
def cKo : Ctx := ⟨[e22, e28, e31, e20, e37, e38, e17, e39, e19, e16], [(11, pO1, leO1), (11, pO2, leO2)]⟩
def cKon : Ctx := cKo.nm

def a_11_0 : List E := [(.var (.i .u8) 0), (.var (.i .u8) 1), (.var (.i .i64) 2), (.var (.i .i64) 3), (.var .x 4)]
def a_11_1 : List E := [(.var .x 640000179200576), (.var (.i .i64) 640000179200577), (.var (.i .i64) 640000179200578), (.var (.i .i64) 640000179200579), (.var (.i .i64) 640000179200580), (.var .x 640000179200581)]
def a_11_2 : List E := [(.var .x 640000179200576), (.var (.i .i64) 640000179200577), (.var (.i .i64) 640000179200578), (.var (.i .i64) 640000179200579), (.var (.i .i64) 640000179200580), (.var .x 640000179200581), (.ite (.cmp .gtr (.lit (.i .i64) 0) (.var (.i .i64) 5)) (.lit (.i .i64) 0) (.var (.i .i64) 5))]
def a_11_3 : List E := [(.var .x 640000108802112), (.var (.i .i64) 640000108802113), (.var (.i .i64) 640000108802114), (.var (.i .i64) 640000108802115), (.var (.i .i64) 640000108802116), (.var .x 640000108802117)]
def defs_11 : List (Nat × E) := [(640000179200576, (.app .x 100000028 0 a_11_0)),
  (640000179200577, (.app (.i .i64) 100000028 1 a_11_0)),
  (640000179200578, (.app (.i .i64) 100000028 2 a_11_0)),
  (640000179200579, (.app (.i .i64) 100000028 3 a_11_0)),
  (640000179200580, (.app (.i .i64) 100000028 4 a_11_0)),
  (640000179200581, (.app .x 100000028 5 a_11_0)),
  (640000198401088, (.app .x 100000031 0 a_11_1)),
  (640000128001600, (.app (.i .i64) 100000020 0 a_11_1)),
  (640000236801600, (.app .x 100000037 0 [(.var .x 640000198401088)])),
  (640000243202112, (.app .x 100000038 0 [(.var .x 640000236801600)])),
  (640000108802112, (.app .x 100000017 0 a_11_2)),
  (640000108802113, (.app (.i .i64) 100000017 1 a_11_2)),
  (640000108802114, (.app (.i .i64) 100000017 2 a_11_2)),
  (640000108802115, (.app (.i .i64) 100000017 3 a_11_2)),
  (640000108802116, (.app (.i .i64) 100000017 4 a_11_2)),
  (640000108802117, (.app .x 100000017 5 a_11_2)),
  (640000108802118, (.app .x 100000017 6 a_11_2)),
  (640000108802119, (.app (.i .i64) 100000017 7 a_11_2)),
  (640000249604672, (.app .x 100000039 0 [(.var .x 640000243202112)])),
  (640000121610304, (.app .b 100000019 0 [(.var .x 640000108802118), (.app .x 0 5 [(.var .x 640000198401088), (.lit (.i .i64) 0), (.ite (.cmp .lss (.app (.i .i64) 0 0 [(.var .x 640000198401088)]) (.ite (.cmp .gtr (.lit (.i .i64) 0) (.var (.i .i64) 5)) (.lit (.i .i64) 0) (.var (.i .i64) 5))) (.app (.i .i64) 0 0 [(.var .x 640000198401088)]) (.ite (.cmp .gtr (.lit (.i .i64) 0) (.var (.i .i64) 5)) (.lit (.i .i64) 0) (.var (.i .i64) 5)))])])),
  (640000198412864, (.app .x 100000031 0 a_11_3)),
  (640000121614912, (.app .b 100000019 0 [(.var .x 640000198412864), (.app .x 0 5 [(.var .x 640000198401088), (.ite (.cmp .lss (.app (.i .i64) 0 0 [(.var .x 640000198401088)]) (.ite (.cmp .gtr (.lit (.i .i64) 0) (.var (.i .i64) 5)) (.lit (.i .i64) 0) (.var (.i .i64) 5))) (.app (.i .i64) 0 0 [(.var .x 640000198401088)]) (.ite (.cmp .gtr (.lit (.i .i64) 0) (.var (.i .i64) 5)) (.lit (.i .i64) 0) (.var (.i .i64) 5))), (.app (.i .i64) 0 0 [(.var .x 640000198401088)])])])),
  (640000102417472, (.app (.i .i64) 100000016 0 a_11_3)),
  (640000128022080, (.app (.i .i64) 100000020 0 a_11_3))]
def q_11_0 : E := (.ite (.cmp .gtr (.lit (.i .i64) 0) (.var (.i .i64) 5)) (.lit (.i .i64) 0) (.var (.i .i64) 5))
def q_11_1 : E := (.or (.cmp .neq (.var (.i .i64) 640000108802119) (.lit (.i .i64) 0)) (.cmp .neq (.app (.i .i64) 0 0 [(.var .x 640000249604672)]) (.app (.i .i64) 0 0 [(.var .x 640000198401088)])))
def q_11_2 : E := (.ite (.cmp .lss (.app (.i .i64) 0 0 [(.var .x 640000198401088)]) q_11_0) (.app (.i .i64) 0 0 [(.var .x 640000198401088)]) q_11_0)
def q_11_3 : E := (.cmp .leq q_11_2 (.app (.i .i64) 0 0 [(.var .x 640000198401088)]))
def q_11_4 : E := (.or q_11_1 (.not (.var .b 640000121610304)))
def q_11_5 : E := (.or q_11_4 (.not (.var .b 640000121614912)))
def q_11_6 : E := (.or q_11_5 (.cmp .neq (.var (.i .i64) 640000102417472) (.bin .sub .i64 (.app (.i .i64) 0 0 [(.var .x 640000198401088)]) q_11_2)))
def q_11_7 : E := (.or q_11_6 (.cmp .neq (.var (.i .i64) 640000128022080) (.bin .sub .i64 (.var (.i .i64) 640000128001600) q_11_2)))
def ob_11 : E := (.and (.and (.app .b 100000022 1000000 []) (.and (.and (.app .b 100000028 1000000 [(.var (.i .u8) 0), (.var (.i .u8) 1), (.var (.i .i64) 2), (.var (.i .i64) 3), (.var .x 4)]) (dE defs_11 0 6)) (.and (.and (.and (.app .b 100000031 1000000 [(.var .x 640000179200576), (.var (.i .i64) 640000179200577), (.var (.i .i64) 640000179200578), (.var (.i .i64) 640000179200579), (.var (.i .i64) 640000179200580), (.var .x 640000179200581)]) (dE defs_11 6 1)) (.and (.app .b 100000020 1000000 [(.var .x 640000179200576), (.var (.i .i64) 640000179200577), (.var (.i .i64) 640000179200578), (.var (.i .i64) 640000179200579), (.var (.i .i64) 640000179200580), (.var .x 640000179200581)]) (dE defs_11 7 1))) (.and (.app .b 100009011 1000000 [(.var .x 640000179200576), (.var (.i .i64) 640000179200577), (.var (.i .i64) 640000179200578), (.var (.i .i64) 640000179200579), (.var (.i .i64) 640000179200580), (.var .x 640000179200581), (.lit (.i .i64) 0), (.var .x 640000198401088), (.app (.i .i64) 0 0 [(.var .x 640000198401088)]), (.lit (.i .i64) 0)]) (.and (.and (.app .b 100000037 1000000 [(.var .x 640000198401088)]) (dE defs_11 8 1)) (.and (.and (.and (.app .b 100000038 1000000 [(.var .x 640000236801600)]) (.cmp .eql (.app (.i .i64) 0 0 [(.var .x 640000243202112)]) (.app (.i .i64) 0 0 [(.var .x 640000236801600)]))) (dE defs_11 9 1)) (.and (.and (.app .b 100000017 1000000 [(.var .x 640000179200576), (.var (.i .i64) 640000179200577), (.var (.i .i64) 640000179200578), (.var (.i .i64) 640000179200579), (.var (.i .i64) 640000179200580), (.var .x 640000179200581), q_11_0]) (dE defs_11 10 8)) (.and (.and (.or (.cmp .neq (.var (.i .i64) 640000108802119) (.lit (.i .i64) 0)) (.and (.app .b 100000039 1000000 [(.var .x 640000243202112)]) (dE defs_11 18 1))) (.and (.or (.cmp .neq (.var (.i .i64) 640000108802119) (.lit (.i .i64) 0)) (.not (.cmp .neq (.var (.i .i64) 640000108802119) (.lit (.i .i64) 0)))) (.and (.or q_11_1 (.and (.cmp .leq (.lit (.i .i64) 0) q_11_2) q_11_3)) (.and (.or q_11_1 (.and (.and (.not q_11_1) (.app .b 100000019 1000000 [(.var .x 640000108802118), (.app .x 0 5 [(.var .x 640000198401088), (.lit (.i .i64) 0), q_11_2])])) (dE defs_11 19 1))) (.and (.or q_11_4 (.and (.app .b 100000031 1000000 [(.var .x 640000108802112), (.var (.i .i64) 640000108802113), (.var (.i .i64) 640000108802114), (.var (.i .i64) 640000108802115), (.var (.i .i64) 640000108802116), (.var .x 640000108802117)]) (dE defs_11 20 1))) (.and (.or q_11_4 (.and (.cmp .geq q_11_2 (.lit (.i .i64) 0)) q_11_3)) (.and (.or q_11_4 (.and (.and (.not q_11_4) (.app .b 100000019 1000000 [(.var .x 640000198412864), (.app .x 0 5 [(.var .x 640000198401088), q_11_2, (.app (.i .i64) 0 0 [(.var .x 640000198401088)])])])) (dE defs_11 21 1))) (.and (.or q_11_5 (.and (.app .b 100000016 1000000 [(.var .x 640000108802112), (.var (.i .i64) 640000108802113), (.var (.i .i64) 640000108802114), (.var (.i .i64) 640000108802115), (.var (.i .i64) 640000108802116), (.var .x 640000108802117)]) (dE defs_11 22 1))) (.or q_11_6 (.and (.app .b 100000020 1000000 [(.var .x 640000108802112), (.var (.i .i64) 640000108802113), (.var (.i .i64) 640000108802114), (.var (.i .i64) 640000108802115), (.var (.i .i64) 640000108802116), (.var .x 640000108802117)]) (dE defs_11 23 1))))))))))) (.or q_11_7 (.app .b 100009111 1000000 [(.var .x 640000108802112), (.var (.i .i64) 640000108802113), (.var (.i .i64) 640000108802114), (.var (.i .i64) 640000108802115), (.var (.i .i64) 640000108802116), (.var .x 640000108802117), q_11_2, (.var .x 640000198401088), (.app (.i .i64) 0 0 [(.var .x 640000198401088)]), (.lit (.i .i64) 0)])))))))))) (.not q_11_7))
def es_11 : List E := []
def e11 : Ent := b11.fw (fnR cKon.l.F b11.np ob_11 es_11 postN)
theorem ev_11 : evE Try.prog G0 (tabOf cKon.fs) (ltOf cKon.ls) 40 10 e11 = some (ob_11, es_11) := by kernel_rfl

theorem cO1ok : cO1.OK Try.prog G0 := (Ctx.OK.nil.addF ok18 rfl).addF ok29 rfl

set_option maxHeartbeats 1000000 in
theorem okO1 : ItemOK Try.prog G0 11 pO1 leO1 ∧ PostOK leO1.ent postN := by
  refine cO1ok.nm.loopH mixed rfl ⟨_, _, _, Try.func11, rfl, rfl⟩ ev_LO1 (by kernel_rfl) _ rfl fun xs hf hp φ hφ => ?_
  obtain ⟨l, hl, hS, hF⟩ := self_H lbO1 φ muO1 (muO1 xs) cO1n.l (by decide)
  show ∃ ρ : Nat → Int, _ ∧ ob_LO1.tt (Tabs.F (enH lbO1 φ muO1 (muO1 xs) :: cO1n.l)) ρ = true ∧ postN xs (es_LO1.map (E.den (Tabs.F (enH lbO1 φ muO1 (muO1 xs) :: cO1n.l)) ρ))
  rw [hl]
  replace hφ : ∀ ys, fits [.x, (.i .i64), (.i .i64), (.i .i64), (.i .i64), .x, (.i .i64), .x, (.i .i64), (.i .i64)] ys → lbO1.ent.pre ys → muO1 ys < muO1 xs → postN ys (outsE φ ys 0 lbO1.ent.oks) := hφ
  have F9011 := FC (k := 9011) rfl hS
  have F18 := FC (k := 100000018) rfl (hF e18.nm (by rfl) (by decide) (by decide))
  have F29 := FC (k := 100000029) rfl (hF e29.nm (by rfl) (by decide) (by decide))
  replace hf : fits [.x, (.i .i64), (.i .i64), (.i .i64), (.i .i64), .x, (.i .i64), .x, (.i .i64), (.i .i64)] xs := hf
  obtain ⟨S, xs0, hx0, hS, hf0⟩ := fits_cons hf
  obtain ⟨now, xs1, hx1, hnow, hf1⟩ := fits_cons hf0
  obtain ⟨bu, xs2, hx2, hbu, hf2⟩ := fits_cons hf1
  obtain ⟨le, xs3, hx3, hle, hf3⟩ := fits_cons hf2
  obtain ⟨mo, xs4, hx4, hmo, hf4⟩ := fits_cons hf3
  obtain ⟨T, xs5, hx5, hT, hf5⟩ := fits_cons hf4
  obtain ⟨last, xs6, hx6, hlast, hf6⟩ := fits_cons hf5
  obtain ⟨L, xs7, hx7, hL, hf7⟩ := fits_cons hf6
  obtain ⟨n, xs8, hx8, hn, hf8⟩ := fits_cons hf7
  obtain ⟨i, xs9, hx9, hi, hf9⟩ := fits_cons hf8
  have hxn := fits_nil hf9
  subst hxn hx9 hx8 hx7 hx6 hx5 hx4 hx3 hx2 hx1 hx0
  simp only [norm_i] at hnow hbu hle hmo hlast hn hi
  obtain ⟨ρ, hρ, hd⟩ := solve (F := l.F) 10 defs_LO1 (by kernel_rfl) [S, now, bu, le, mo, T, last, L, n, i]
  have hDf := dE_tt (by kernel_rfl) hd
  refine ⟨ρ, hρ, ?_⟩
  have r0 : ρ 0 = S := hρ 0 (by decide)
  have r1 : ρ 1 = now := hρ 1 (by decide)
  have r2 : ρ 2 = bu := hρ 2 (by decide)
  have r3 : ρ 3 = le := hρ 3 (by decide)
  have r4 : ρ 4 = mo := hρ 4 (by decide)
  have r5 : ρ 5 = T := hρ 5 (by decide)
  have r6 : ρ 6 = last := hρ 6 (by decide)
  have r7 : ρ 7 = L := hρ 7 (by decide)
  have r8 : ρ 8 = n := hρ 8 (by decide)
  have r9 : ρ 9 = i := hρ 9 (by decide)
  obtain ⟨v1, hv1, hd1, hn1⟩ := nmd hd 0 rfl
  obtain ⟨v2, hv2, hd2, hn2⟩ := nmd hd 1 rfl
  obtain ⟨v3, hv3, hd3, hn3⟩ := nmd hd 2 rfl
  simp only [norm_i] at hn1 hn3
  simp (disch := omega) only [norm_i, a_LO1_0, F18, F29, Ent.nm_fn, r0, r1, hnow, r2, hbu, r3, hle, r4, hmo, r5, r6, hlast, r7, r8, hn, r9, hi, hv1, hn1, hv2, hn2, hv3, hn3, ewA, ewL, preC, binI, dvI, shI, cmpB, env, bi, List.headD, List.tail, List.map, Nat.reduceAdd, ewR, ewB, ewM, if_true, if_false, implies_true, forall_const, ne_eq, reduceCtorEq, Int.reduceEq, Int.reduceLT, Int.reduceLE, Int.reduceToNat, Int.reduceAdd, Int.reduceSub, Int.reduceMul, Int.reduceNeg, Int.reduceBEq, Nat.reduceLT, Nat.reduceEqDiff] at hd1 hd2 hd3
  have hSS := And.intro (And.intro (And.intro (And.intro F9011 (And.intro F18 F29)) (And.intro r0 (And.intro r1 hnow))) (And.intro (And.intro r2 (And.intro hbu r3)) (And.intro (And.intro hle r4) (And.intro hmo r5)))) (And.intro (And.intro (And.intro r6 (And.intro hlast r7)) (And.intro (And.intro r8 hn) (And.intro r9 hi))) (And.intro (And.intro hv1 (And.intro hn1 hv2)) (And.intro (And.intro hn2 hv3) (And.intro hn3 hDf))))
  obtain ⟨c, d, B, hw, p1, p2, p3, p4, p5⟩ := hp
  replace hw : WV S now bu le mo T c d B := hw
  replace p1 : dc L = idR B := p1
  replace p5 : ∀ j ∈ B.drop i.toNat, last ≤ d j := p5
  simp only [ewA, ewL, preC, binI, dvI, shI, cmpB, env, bi, List.headD, List.tail, List.map, Nat.reduceAdd] at p2 p3 p4
  have hct := hw.ct
  have hlB := hw.lenB
  have htm := hw.tm
  have y18 : e18.pre [S, now, bu, le, mo, T] := hw.lenOK []
  by_cases hi : i < n
  · have hil : i.toNat < B.length := by omega
    obtain ⟨k, hk⟩ : ∃ k, B[i.toNat] = k := ⟨_, rfl⟩
    have hdr : B.drop i.toNat = k :: B.drop (i + 1).toNat := by
      rw [List.drop_eq_getElem_cons hil, hk, show (i + 1).toNat = i.toNat + 1 by omega]
    have hkB : k ∈ B := hk ▸ List.getElem_mem _
    obtain ⟨m1, m2, m3⟩ := (hw.mem k).1 hkB
    have er : (dc L).getD i.toNat [] = [(k : Int)] := by
      rw [p1]; unfold idR; simp [List.getD, hil, hk]
    have wk : IntKind.i64.wrap (k : Int) = (k : Int) := i64w (by omega) (by omega)
    have hl : (dc L).length = B.length := by rw [p1]; unfold idR; rw [List.length_map]
    have y29 : e29.pre [S, now, bu, le, mo, T, (k : Int)] := hw.preR _
    simp only [ewA, ewL, preC, binI, dvI, shI, cmpB, env, bi, List.headD, List.tail, List.map, Nat.reduceAdd, ewR, ewB, ewM, if_true, if_false, implies_true, forall_const, ne_eq, reduceCtorEq, Int.reduceEq, Int.reduceLT, Int.reduceLE, Int.reduceToNat, Int.reduceAdd, Int.reduceSub, Int.reduceMul, Int.reduceNeg, Int.reduceBEq, Nat.reduceLT, Nat.reduceEqDiff, er, wk] at hd1 hd2
    obtain ⟨z1, z2⟩ := hw.dead (i := (k : Int)) ⟨by omega, m1⟩ ⟨hd1, hd2, trivial⟩
    rw [Int.toNat_natCast] at z1 z2
    rw [decide_eq_true (by omega)] at z2
    replace z2 : v2 = 1 := z2
    have z3 := hw.nowV hd3
    have hs : (B.drop i.toNat).Pairwise fun a b => d a ≤ d b := List.Pairwise.sublist (List.drop_sublist _ _) hw.sr
    rw [hdr] at hs p5
    have q1 := p5 k (List.mem_cons_self ..)
    have yp : lbO1.ent.pre [S, now, bu, le, mo, T, v1, L, n, i + 1] := ⟨c, d, B, hw, p1, p2, by show 0 ≤ i + 1; omega, by show i + 1 ≤ n; omega, fun j hj => by show v1 ≤ d j; rw [z1]; exact (List.pairwise_cons.1 hs).1 j hj⟩
    have ym : muO1 [S, now, bu, le, mo, T, v1, L, n, i + 1] < muO1 [S, now, bu, le, mo, T, last, L, n, i] := by show (n - (i + 1)).toNat < (n - i).toNat; omega
    have c1 : ¬ v3 < v1 := by omega
    have c2 : ¬ v1 < last := by omega
    refine ⟨?_, trivial⟩
    simp (disch := omega) only [ob_LO1, q_LO1_0, ewA, ewL, preC, binI, dvI, shI, cmpB, env, bi, List.headD, List.tail, List.map, Nat.reduceAdd, ewR, ewB, ewM, if_true, if_false, implies_true, forall_const, ne_eq, reduceCtorEq, Int.reduceEq, Int.reduceLT, Int.reduceLE, Int.reduceToNat, Int.reduceAdd, Int.reduceSub, Int.reduceMul, Int.reduceNeg, Int.reduceBEq, Nat.reduceLT, Nat.reduceEqDiff, hSS, hi, er, wk, hl, z2, c1, c2]
    repeat' (first | (with_reducible apply And.intro) | (with_reducible intro _))
    all_goals first | with_reducible assumption | trivial | omega | (split <;> omega)
  · refine ⟨?_, trivial⟩
    simp (disch := omega) only [ob_LO1, q_LO1_0, ewA, ewL, preC, binI, dvI, shI, cmpB, env, bi, List.headD, List.tail, List.map, Nat.reduceAdd, ewR, ewB, ewM, if_true, if_false, implies_true, forall_const, ne_eq, reduceCtorEq, Int.reduceEq, Int.reduceLT, Int.reduceLE, Int.reduceToNat, Int.reduceAdd, Int.reduceSub, Int.reduceMul, Int.reduceNeg, Int.reduceBEq, Nat.reduceLT, Nat.reduceEqDiff, hSS, hi]

theorem cO2ok : cO2.OK Try.prog G0 := Ctx.OK.nil.addF ok29 rfl

set_option maxHeartbeats 1000000 in
theorem okO2 : ItemOK Try.prog G0 11 pO2 leO2 ∧ PostOK leO2.ent postN := by
  refine cO2ok.nm.loopH mixed rfl ⟨_, _, _, Try.func11, rfl, rfl⟩ ev_LO2 (by kernel_rfl) _ rfl fun xs hf hp φ hφ => ?_
  obtain ⟨l, hl, hS, hF⟩ := self_H lbO2 φ muO1 (muO1 xs) cO2n.l (by decide)
  show ∃ ρ : Nat → Int, _ ∧ ob_LO2.tt (Tabs.F (enH lbO2 φ muO1 (muO1 xs) :: cO2n.l)) ρ = true ∧ postN xs (es_LO2.map (E.den (Tabs.F (enH lbO2 φ muO1 (muO1 xs) :: cO2n.l)) ρ))
  rw [hl]
  replace hφ : ∀ ys, fits [.x, (.i .i64), (.i .i64), (.i .i64), (.i .i64), .x, (.i .i64), .x, (.i .i64), (.i .i64)] ys → lbO2.ent.pre ys → muO1 ys < muO1 xs → postN ys (outsE φ ys 0 lbO2.ent.oks) := hφ
  have F9111 := FC (k := 9111) rfl hS
  have F29 := FC (k := 100000029) rfl (hF e29.nm (by rfl) (by decide) (by decide))
  replace hf : fits [.x, (.i .i64), (.i .i64), (.i .i64), (.i .i64), .x, (.i .i64), .x, (.i .i64), (.i .i64)] xs := hf
  obtain ⟨S, xs0, hx0, hS, hf0⟩ := fits_cons hf
  obtain ⟨now, xs1, hx1, hnow, hf1⟩ := fits_cons hf0
  obtain ⟨bu, xs2, hx2, hbu, hf2⟩ := fits_cons hf1
  obtain ⟨le, xs3, hx3, hle, hf3⟩ := fits_cons hf2
  obtain ⟨mo, xs4, hx4, hmo, hf4⟩ := fits_cons hf3
  obtain ⟨T, xs5, hx5, hT, hf5⟩ := fits_cons hf4
  obtain ⟨m, xs6, hx6, hm, hf6⟩ := fits_cons hf5
  obtain ⟨L, xs7, hx7, hL, hf7⟩ := fits_cons hf6
  obtain ⟨n, xs8, hx8, hn, hf8⟩ := fits_cons hf7
  obtain ⟨i, xs9, hx9, hi, hf9⟩ := fits_cons hf8
  have hxn := fits_nil hf9
  subst hxn hx9 hx8 hx7 hx6 hx5 hx4 hx3 hx2 hx1 hx0
  simp only [norm_i] at hnow hbu hle hmo hm hn hi
  obtain ⟨ρ, hρ, hd⟩ := solve (F := l.F) 10 defs_LO2 (by kernel_rfl) [S, now, bu, le, mo, T, m, L, n, i]
  have hDf := dE_tt (by kernel_rfl) hd
  refine ⟨ρ, hρ, ?_⟩
  have r0 : ρ 0 = S := hρ 0 (by decide)
  have r1 : ρ 1 = now := hρ 1 (by decide)
  have r2 : ρ 2 = bu := hρ 2 (by decide)
  have r3 : ρ 3 = le := hρ 3 (by decide)
  have r4 : ρ 4 = mo := hρ 4 (by decide)
  have r5 : ρ 5 = T := hρ 5 (by decide)
  have r6 : ρ 6 = m := hρ 6 (by decide)
  have r7 : ρ 7 = L := hρ 7 (by decide)
  have r8 : ρ 8 = n := hρ 8 (by decide)
  have r9 : ρ 9 = i := hρ 9 (by decide)
  obtain ⟨v1, hv1, hd1, hn1⟩ := nmd hd 0 rfl
  obtain ⟨v2, hv2, hd2, hn2⟩ := nmd hd 1 rfl
  simp only [norm_i] at hn1
  simp (disch := omega) only [norm_i, a_LO2_0, F29, Ent.nm_fn, r0, r1, hnow, r2, hbu, r3, hle, r4, hmo, r5, r6, hm, r7, r8, hn, r9, hi, hv1, hn1, hv2, hn2, ewA, ewL, preC, binI, dvI, shI, cmpB, env, bi, List.headD, List.tail, List.map, Nat.reduceAdd, ewR, ewB, ewM, if_true, if_false, implies_true, forall_const, ne_eq, reduceCtorEq, Int.reduceEq, Int.reduceLT, Int.reduceLE, Int.reduceToNat, Int.reduceAdd, Int.reduceSub, Int.reduceMul, Int.reduceNeg, Int.reduceBEq, Nat.reduceLT, Nat.reduceEqDiff] at hd1 hd2
  have hSS := And.intro (And.intro (And.intro (And.intro F9111 (And.intro F29 r0)) (And.intro r1 (And.intro hnow r2))) (And.intro (And.intro hbu (And.intro r3 hle)) (And.intro r4 (And.intro hmo r5)))) (And.intro (And.intro (And.intro r6 (And.intro hm r7)) (And.intro r8 (And.intro hn r9))) (And.intro (And.intro hi (And.intro hv1 hn1)) (And.intro hv2 (And.intro hn2 hDf))))
  obtain ⟨c, d, B, l0, hw, p1, p2, p3, p4, p5, p6, p7⟩ := hp
  replace hw : WV S now bu le mo T c d B := hw
  replace p1 : dc L = idR l0 := p1
  replace p7 : ∀ j : Nat, j < l0.length → (l0.getD j 0 : Int) < c ∧ (d (l0.getD j 0) ≠ 0 ↔ m ≤ (j : Int)) := p7
  simp only [ewA, ewL, preC, binI, dvI, shI, cmpB, env, bi, List.headD, List.tail, List.map, Nat.reduceAdd] at p2 p4 p5 p6
  have hct := hw.ct
  by_cases hi : i < n
  · have hil : i.toNat < l0.length := by omega
    obtain ⟨k, hk⟩ : ∃ k, l0.getD i.toNat 0 = k := ⟨_, rfl⟩
    have hk' : l0[i.toNat] = k := by rw [← hk]; simp [List.getD, hil]
    obtain ⟨m1, m2⟩ := p7 i.toNat hil
    rw [hk] at m1 m2
    have er : (dc L).getD i.toNat [] = [(k : Int)] := by
      rw [p1]; unfold idR; simp [List.getD, hil, hk']
    have wk : IntKind.i64.wrap (k : Int) = (k : Int) := i64w (by omega) (by omega)
    have hl : (dc L).length = l0.length := by rw [p1]; unfold idR; rw [List.length_map]
    have y29 : e29.pre [S, now, bu, le, mo, T, (k : Int)] := hw.preR _
    simp only [ewA, ewL, preC, binI, dvI, shI, cmpB, env, bi, List.headD, List.tail, List.map, Nat.reduceAdd, ewR, ewB, ewM, if_true, if_false, implies_true, forall_const, ne_eq, reduceCtorEq, Int.reduceEq, Int.reduceLT, Int.reduceLE, Int.reduceToNat, Int.reduceAdd, Int.reduceSub, Int.reduceMul, Int.reduceNeg, Int.reduceBEq, Nat.reduceLT, Nat.reduceEqDiff, er, wk] at hd1 hd2
    obtain ⟨z1, z2⟩ := hw.dead (i := (k : Int)) ⟨by omega, m1⟩ ⟨hd1, hd2, trivial⟩
    rw [Int.toNat_natCast] at z1 z2
    have z3 : v2 = b2i (decide (m ≤ i)) := by
      rw [z2]
      congr 1
      exact decide_eq_decide.2 (m2.trans (by omega))
    have yp : lbO2.ent.pre [S, now, bu, le, mo, T, m, L, n, i + 1] := ⟨c, d, B, l0, hw, p1, p2, p3, by show 0 ≤ i + 1; omega, by show i + 1 ≤ n; omega, p6, p7⟩
    have ym : muO1 [S, now, bu, le, mo, T, m, L, n, i + 1] < muO1 [S, now, bu, le, mo, T, m, L, n, i] := by show (n - (i + 1)).toNat < (n - i).toNat; omega
    refine ⟨?_, trivial⟩
    by_cases hm : m ≤ i
    · rw [decide_eq_true hm] at z3
      simp (disch := omega) only [ob_LO2, q_LO2_0, ewA, ewL, preC, binI, dvI, shI, cmpB, env, bi, List.headD, List.tail, List.map, Nat.reduceAdd, ewR, ewB, ewM, if_true, if_false, implies_true, forall_const, ne_eq, reduceCtorEq, Int.reduceEq, Int.reduceLT, Int.reduceLE, Int.reduceToNat, Int.reduceAdd, Int.reduceSub, Int.reduceMul, Int.reduceNeg, Int.reduceBEq, Nat.reduceLT, Nat.reduceEqDiff, hSS, hi, er, wk, hl, z3, hm]
      repeat' (first | (with_reducible apply And.intro) | (with_reducible intro _))
      all_goals first | with_reducible assumption | trivial | omega | (split <;> omega)
    · rw [decide_eq_false hm] at z3
      simp (disch := omega) only [ob_LO2, q_LO2_0, ewA, ewL, preC, binI, dvI, shI, cmpB, env, bi, List.headD, List.tail, List.map, Nat.reduceAdd, ewR, ewB, ewM, if_true, if_false, implies_true, forall_const, ne_eq, reduceCtorEq, Int.reduceEq, Int.reduceLT, Int.reduceLE, Int.reduceToNat, Int.reduceAdd, Int.reduceSub, Int.reduceMul, Int.reduceNeg, Int.reduceBEq, Nat.reduceLT, Nat.reduceEqDiff, hSS, hi, er, wk, hl, z3, hm]
      repeat' (first | (with_reducible apply And.intro) | (with_reducible intro _))
      all_goals first | with_reducible assumption | trivial | omega | (split <;> omega)
  · refine ⟨?_, trivial⟩
    simp (disch := omega) only [ob_LO2, q_LO2_0, ewA, ewL, preC, binI, dvI, shI, cmpB, env, bi, List.headD, List.tail, List.map, Nat.reduceAdd, ewR, ewB, ewM, if_true, if_false, implies_true, forall_const, ne_eq, reduceCtorEq, Int.reduceEq, Int.reduceLT, Int.reduceLE, Int.reduceToNat, Int.reduceAdd, Int.reduceSub, Int.reduceMul, Int.reduceNeg, Int.reduceBEq, Nat.reduceLT, Nat.reduceEqDiff, hSS, hi]

theorem neiR_srt {B : List Nat} (h : B.Nodup) : neiR (srtR (idR B)) := by
  intro i hi
  obtain ⟨Z, hZ⟩ : ∃ Z, Z = (numsR (idR B)).mergeSort fun x y => decide (x ≤ y) := ⟨_, rfl⟩
  have e : numsR (idR B) = B.map fun j : Nat => (j : Int) := by unfold numsR idR; rw [List.map_map]; rfl
  have hn : Z.Nodup := by
    rw [hZ]
    refine (List.mergeSort_perm _ _).nodup_iff.2 ?_
    rw [e]
    exact List.Pairwise.map _ (fun a b hab hc => hab (by omega)) h
  unfold srtR at hi ⊢
  rw [← hZ] at hi ⊢
  rw [List.length_map] at hi
  simp only [List.getD, List.getElem?_map, List.getElem?_eq_getElem hi, List.getElem?_eq_getElem (show i < Z.length by omega), Option.map_some, Option.getD_some]
  intro hc
  have h1 : Z[i + 1] = Z[i] := by injection hc
  exact absurd ((List.getElem_inj hn).1 h1) (by omega)
theorem cKook : cKo.OK Try.prog G0 := by
  have h : Ctx.OK Try.prog G0 ⟨[e22, e28, e31, e20, e37, e38, e17, e39, e19, e16], []⟩ :=
    (((((((((Ctx.OK.nil.addF ok16 rfl).addF ok19 rfl).addF ok39.1 rfl).addF ok17 rfl).addF ok38 rfl).addF ok37 rfl).addF ok20 rfl).addF ok31 rfl).addF ok28.1 rfl).addF ok22 rfl
  exact (h.addL okO2.1 rfl).addL okO1.1 rfl

set_option maxHeartbeats 1000000 in
theorem ok11 : EntryOK Try.prog G0 e11 ∧ PostOK e11 postN := by
  refine cKook.nm.entryH mixed ev_11 (by kernel_rfl) _ rfl fun xs hf hp => ?_
  obtain ⟨l, hl, hF⟩ := ctx_P (l0 := cKon.l)
  show ∃ ρ : Nat → Int, _ ∧ ob_11.tt cKon.l.F ρ = true ∧ postN xs (es_11.map (E.den cKon.l.F ρ))
  rw [hl]
  have F16 := FC (k := 100000016) rfl (hF e16.nm (by rfl) (by decide))
  have F17 := FC (k := 100000017) rfl (hF e17.nm (by rfl) (by decide))
  have F19 := FC (k := 100000019) rfl (hF e19.nm (by rfl) (by decide))
  have F20 := FC (k := 100000020) rfl (hF e20.nm (by rfl) (by decide))
  have F22 := FC (k := 100000022) rfl (hF e22.nm (by rfl) (by decide))
  have F28 := FC (k := 100000028) rfl (hF e28.nm (by rfl) (by decide))
  have F31 := FC (k := 100000031) rfl (hF e31.nm (by rfl) (by decide))
  have F37 := FC (k := 100000037) rfl (hF e37.nm (by rfl) (by decide))
  have F38 := FC (k := 100000038) rfl (hF e38.nm (by rfl) (by decide))
  have F39 := FC (k := 100000039) rfl (hF e39.nm (by rfl) (by decide))
  have F9011 := FC (k := 100009011) rfl (hF leO1.nm.ent (by rfl) (by decide))
  have F9111 := FC (k := 100009111) rfl (hF leO2.nm.ent (by rfl) (by decide))
  replace hf : fits [(.i .u8), (.i .u8), (.i .i64), (.i .i64), .x, (.i .i64)] xs := hf
  obtain ⟨nb, xs0, hx0, hnb, hf0⟩ := fits_cons hf
  obtain ⟨ns, xs1, hx1, hns, hf1⟩ := fits_cons hf0
  obtain ⟨nn, xs2, hx2, hnn, hf2⟩ := fits_cons hf1
  obtain ⟨nc, xs3, hx3, hnc, hf3⟩ := fits_cons hf2
  obtain ⟨A, xs4, hx4, hA, hf4⟩ := fits_cons hf3
  obtain ⟨tk, xs5, hx5, htk, hf5⟩ := fits_cons hf4
  have hxn := fits_nil hf5
  subst hxn hx5 hx4 hx3 hx2 hx1 hx0
  simp only [norm_i] at hnb hns hnn hnc htk
  obtain ⟨ρ, hρ, hd⟩ := solve (F := l.F) 6 defs_11 (by kernel_rfl) [nb, ns, nn, nc, A, tk]
  have hDf := dE_tt (by kernel_rfl) hd
  refine ⟨ρ, hρ, ?_⟩
  have r0 : ρ 0 = nb := hρ 0 (by decide)
  have r1 : ρ 1 = ns := hρ 1 (by decide)
  have r2 : ρ 2 = nn := hρ 2 (by decide)
  have r3 : ρ 3 = nc := hρ 3 (by decide)
  have r4 : ρ 4 = A := hρ 4 (by decide)
  have r5 : ρ 5 = tk := hρ 5 (by decide)
  obtain ⟨v1, hv1, hd1, hn1⟩ := nmd hd 0 rfl
  obtain ⟨v2, hv2, hd2, hn2⟩ := nmd hd 1 rfl
  obtain ⟨v3, hv3, hd3, hn3⟩ := nmd hd 2 rfl
  obtain ⟨v4, hv4, hd4, hn4⟩ := nmd hd 3 rfl
  obtain ⟨v5, hv5, hd5, hn5⟩ := nmd hd 4 rfl
  obtain ⟨v6, hv6, hd6, hn6⟩ := nmd hd 5 rfl
  obtain ⟨v7, hv7, hd7, hn7⟩ := nmd hd 6 rfl
  obtain ⟨v8, hv8, hd8, hn8⟩ := nmd hd 7 rfl
  obtain ⟨v9, hv9, hd9, hn9⟩ := nmd hd 8 rfl
  obtain ⟨v10, hv10, hd10, hn10⟩ := nmd hd 9 rfl
  obtain ⟨v11, hv11, hd11, hn11⟩ := nmd hd 10 rfl
  obtain ⟨v12, hv12, hd12, hn12⟩ := nmd hd 11 rfl
  obtain ⟨v13, hv13, hd13, hn13⟩ := nmd hd 12 rfl
  obtain ⟨v14, hv14, hd14, hn14⟩ := nmd hd 13 rfl
  obtain ⟨v15, hv15, hd15, hn15⟩ := nmd hd 14 rfl
  obtain ⟨v16, hv16, hd16, hn16⟩ := nmd hd 15 rfl
  obtain ⟨v17, hv17, hd17, hn17⟩ := nmd hd 16 rfl
  obtain ⟨v18, hv18, hd18, hn18⟩ := nmd hd 17 rfl
  obtain ⟨v19, hv19, hd19, hn19⟩ := nmd hd 18 rfl
  obtain ⟨v20, hv20, hd20, hn20⟩ := nmd hd 19 rfl
  obtain ⟨v21, hv21, hd21, hn21⟩ := nmd hd 20 rfl
  obtain ⟨v22, hv22, hd22, hn22⟩ := nmd hd 21 rfl
  obtain ⟨v23, hv23, hd23, hn23⟩ := nmd hd 22 rfl
  obtain ⟨v24, hv24, hd24, hn24⟩ := nmd hd 23 rfl
  simp only [norm_i] at hn2 hn3 hn4 hn5 hn8 hn12 hn13 hn14 hn15 hn18 hn23 hn24
  simp (disch := omega) only [norm_i, a_11_0, a_11_1, a_11_2, a_11_3, F16, F17, F19, F20, F28, F31, F37, F38, F39, Ent.nm_fn, r0, hnb, r1, hns, r2, hnn, r3, hnc, r4, r5, htk, hv1, hv2, hn2, hv3, hn3, hv4, hn4, hv5, hn5, hv6, hv7, hv8, hn8, hv9, hv10, hv11, hv12, hn12, hv13, hn13, hv14, hn14, hv15, hn15, hv16, hv17, hv18, hn18, hv19, hv20, hn20, hv21, hv22, hn22, hv23, hn23, hv24, hn24, ewA, ewL, preC, binI, dvI, shI, cmpB, env, bi, List.headD, List.tail, List.map, Nat.reduceAdd, ewR, ewB, ewM, if_true, if_false, implies_true, forall_const, ne_eq, reduceCtorEq, Int.reduceEq, Int.reduceLT, Int.reduceLE, Int.reduceToNat, Int.reduceAdd, Int.reduceSub, Int.reduceMul, Int.reduceNeg, Int.reduceBEq, Nat.reduceLT, Nat.reduceEqDiff] at hd1 hd2 hd3 hd4 hd5 hd6 hd7 hd8 hd9 hd10 hd11 hd12 hd13 hd14 hd15 hd16 hd17 hd18 hd19 hd20 hd21 hd22 hd23 hd24
  have hSS := And.intro (And.intro (And.intro (And.intro (And.intro F16 (And.intro F17 F19)) (And.intro (And.intro F20 F22) (And.intro F28 F31))) (And.intro (And.intro (And.intro F37 F38) (And.intro F39 F9011)) (And.intro (And.intro F9111 r0) (And.intro hnb r1)))) (And.intro (And.intro (And.intro (And.intro hns r2) (And.intro hnn r3)) (And.intro (And.intro hnc r4) (And.intro r5 htk))) (And.intro (And.intro (And.intro hv1 hv2) (And.intro hn2 hv3)) (And.intro (And.intro hn3 hv4) (And.intro hn4 hv5))))) (And.intro (And.intro (And.intro (And.intro hn5 (And.intro hv6 hv7)) (And.intro (And.intro hv8 hn8) (And.intro hv9 hv10))) (And.intro (And.intro (And.intro hv11 hv12) (And.intro hn12 hv13)) (And.intro (And.intro hn13 hv14) (And.intro hn14 hv15)))) (And.intro (And.intro (And.intro (And.intro hn15 hv16) (And.intro hv17 hv18)) (And.intro (And.intro hn18 hv19) (And.intro hv20 hn20))) (And.intro (And.intro (And.intro hv21 hv22) (And.intro hn22 hv23)) (And.intro (And.intro hn23 hv24) (And.intro hn24 hDf)))))
  have rt := i64r htk
  have y28 : e28.pre [nb, ns, nn, nc, A] := hp
  have y22 : e22.pre [] := trivial
  obtain ⟨⟨d, B, hw⟩, i2, i3, i4⟩ := (PostOK.use (ks := [(.i .u8), (.i .u8), (.i .i64), (.i .i64), .x]) (os := [.x, (.i .i64), (.i .i64), (.i .i64), (.i .i64), .x]) (vs := [v1, v2, v3, v4, v5, v6]) ok28.2 rfl rfl ⟨hd1, hd2, hd3, hd4, hd5, hd6, trivial⟩) ⟨(by first | rfl | assumption | exact i64w (by omega) (by omega) | exact u8w (by omega) (by omega)), (by first | rfl | assumption | exact i64w (by omega) (by omega) | exact u8w (by omega) (by omega)), (by first | rfl | assumption | exact i64w (by omega) (by omega) | exact u8w (by omega) (by omega)), (by first | rfl | assumption | exact i64w (by omega) (by omega) | exact u8w (by omega) (by omega)), rfl, trivial⟩ y28
  obtain ⟨c, hc⟩ : ∃ c, capF [nb, ns, nn, nc] = c := ⟨_, rfl⟩
  replace hw : WV v1 v2 v3 v4 v5 v6 (capF [nb, ns, nn, nc]) d B := hw
  rw [hc] at hw
  have hct := hw.ct
  have hlB := hw.lenB
  have y31 : e31.pre [v1, v2, v3, v4, v5, v6] := hw.wx
  have y20 : e20.pre [v1, v2, v3, v4, v5, v6] := hw.lenOK []
  have z7 : dc v7 = idR B := by rw [hd7]; exact hw.ids
  have z8 := hw.lenV hd8
  have hl7 : (dc v7).length = B.length := by rw [z7]; unfold idR; rw [List.length_map]
  have z9 : v9 = v7 := hd9
  have z10 : dc v10 = srtR (idR B) := by rw [hd10]; show dc (cd (srtR (dc v9))) = _; rw [dc_cd, z9, z7]
  have hl10 : (dc v10).length = B.length := by rw [z10, srtR_len]; unfold idR; rw [List.length_map]
  have wB : IntKind.i64.wrap (B.length : Int) = (B.length : Int) := i64w (by omega) (by omega)
  obtain ⟨m, hm, hm0⟩ : ∃ m, (if tk < 0 then 0 else tk) = m ∧ 0 ≤ m := ⟨_, rfl, by split <;> omega⟩
  obtain ⟨kk, hkk, hkB⟩ : ∃ kk, (if (B.length : Int) < m then (B.length : Int) else m) = kk ∧ kk = ((B.take m.toNat).length : Int) := ⟨_, rfl, by rw [List.length_take]; split <;> omega⟩
  simp (disch := omega) only [ewA, ewL, preC, binI, dvI, shI, cmpB, env, bi, List.headD, List.tail, List.map, Nat.reduceAdd, ewR, ewB, ewM, if_true, if_false, implies_true, forall_const, ne_eq, reduceCtorEq, Int.reduceEq, Int.reduceLT, Int.reduceLE, Int.reduceToNat, Int.reduceAdd, Int.reduceSub, Int.reduceMul, Int.reduceNeg, Int.reduceBEq, Nat.reduceLT, Nat.reduceEqDiff, hm, hl7, wB, hkk] at hd11 hd12 hd13 hd14 hd15 hd16 hd17 hd18 hd20 hd22
  obtain ⟨t1, t2, t3, t4, t5, t6, t7, _⟩ := hw.take hm0 ⟨hd11, hd12, hd13, hd14, hd15, hd16, hd17, hd18, trivial⟩
  have hkm : ∀ {α : Type} (l : List α), l.length = B.length → l.take kk.toNat = l.take m.toNat ∧ (l.take B.length).drop kk.toNat = l.drop m.toNat := fun l hl => by
    rw [List.length_take] at hkB
    rw [List.take_of_length_le (show l.length ≤ B.length by omega)]
    by_cases h : m.toNat ≤ B.length
    · rw [show kk.toNat = m.toNat by omega]; exact ⟨rfl, rfl⟩
    · rw [List.take_of_length_le (show l.length ≤ kk.toNat by omega), List.take_of_length_le (show l.length ≤ m.toNat by omega), List.drop_of_length_le (show l.length ≤ kk.toNat by omega), List.drop_of_length_le (show l.length ≤ m.toNat by omega)]
      exact ⟨rfl, rfl⟩
  have hl17 : (dc v17).length = (B.take m.toNat).length := by rw [t6, List.length_map]
  obtain ⟨P, hP⟩ : ∃ P, P = cd (List.take kk.toNat (dc v7)) := ⟨_, rfl⟩
  obtain ⟨R, hR⟩ : ∃ R, R = cd (List.drop kk.toNat (List.take B.length (dc v7))) := ⟨_, rfl⟩
  have dP : dc P = idR (B.take m.toNat) := by
    rw [hP, dc_cd, (hkm _ hl7).1, z7]; unfold idR; rw [List.map_take]
  have dR : dc R = idR (B.drop m.toNat) := by
    rw [hR, dc_cd, (hkm _ hl7).2, z7]; unfold idR; rw [List.map_drop]
  rw [← hP] at hd20
  rw [← hR] at hd22
  have y31b : e31.pre [v11, v12, v13, v14, v15, v16] := t1.wx
  have z21 : dc v21 = idR (B.drop m.toNat) := by rw [hd21]; exact t1.ids
  have z23 := t1.lagV hd23
  have z24 := t1.lenV hd24
  have y16 : e16.pre [v11, v12, v13, v14, v15, v16] := t1.pre16
  have y20b : e20.pre [v11, v12, v13, v14, v15, v16] := t1.lenOK []
  have y17 : e17.pre [v1, v2, v3, v4, v5, v6, m] := hw.wx1 _
  have hrow : ∀ l : List Nat, (∀ i ∈ l, (i : Int) < c) → rowsOK intK (idR l) := fun l hl r hr => by
    obtain ⟨j, hj, rfl⟩ := List.mem_map.1 hr
    have := hl j hj
    exact ⟨i64w (by omega) (by omega), trivial⟩
  have hBc : ∀ i ∈ B, (i : Int) < c := fun i hi => ((hw.mem i).1 hi).1
  have hlt : (B.take m.toNat).length ≤ B.length := by rw [List.length_take]; omega
  have hld : (B.drop m.toNat).length = B.length - m.toNat := List.length_drop
  have y19 : ∀ (a b : Int) (l : List Nat), dc a = idR l → dc b = idR l → l.length ≤ B.length → (∀ i ∈ l, i ∈ B) → e19.pre [a, b] ∧ e19.fn 0 [a, b] = 1 := fun a b l ha hb hl hm => by
    have h1 : (idR l).length = l.length := by unfold idR; rw [List.length_map]
    refine ⟨⟨?_, ?_, ?_, ?_⟩, ?_⟩
    · show ((dc a).length : Int) < cap8; rw [ha, h1]; unfold cap8; omega
    · show ((dc b).length : Int) < cap8; rw [hb, h1]; unfold cap8; omega
    · show rowsOK intK (dc a); rw [ha]; exact hrow l fun i hi => hBc i (hm i hi)
    · show rowsOK intK (dc b); rw [hb]; exact hrow l fun i hi => hBc i (hm i hi)
    · show b2i (dc a == dc b) = 1; rw [ha, hb, beq_self_eq_true]; rfl
  obtain ⟨ya, za⟩ := y19 v17 P _ t6 dP hlt fun i hi => List.mem_of_mem_take hi
  obtain ⟨yb, zb⟩ := y19 v21 R _ z21 dR (by omega) fun i hi => List.mem_of_mem_drop hi
  rw [za] at hd20
  rw [zb] at hd22
  have z20 : v20 = 1 := hd20
  have z22 : v22 = 1 := hd22
  have y37 : e37.pre [v7] := by show ((dc v7).length : Int) < 1099511627776; omega
  have y38 : e38.pre [v9] := by show ((dc v9).length : Int) < 1099511627776; rw [z9]; omega
  have y39 : e39.pre [v10] := by
    refine ⟨?_, ?_, ?_⟩
    · show rowsOK intK (dc v10)
      rw [z10]
      intro r hr
      obtain ⟨z, hz, rfl⟩ := List.mem_map.1 hr
      have hz := (List.mergeSort_perm _ _).mem_iff.1 hz
      obtain ⟨r', hr', rfl⟩ := List.mem_map.1 hz
      obtain ⟨j, hj, rfl⟩ := List.mem_map.1 hr'
      have := hBc j hj
      exact ⟨i64w (by show -9223372036854775808 ≤ (j : Int); omega) (by show (j : Int) ≤ 9223372036854775807; omega), trivial⟩
    · show ((dc v10).length : Int) ≤ 4096; omega
    · show neiR (dc v10); rw [z10]; exact neiR_srt hw.nd
  have z19 : v19 = v10 := (PostOK.use (ks := [.x]) (os := [.x]) (vs := [v19]) ok39.2 rfl rfl ⟨hd19, trivial⟩) ⟨rfl, trivial⟩ y39
  have hl19 : (dc v19).length = B.length := by rw [z19]; exact hl10
  have hl9 : (dc v9).length = B.length := by rw [z9]; exact hl7
  have yO1 : leO1.ent.pre [v1, v2, v3, v4, v5, v6, 0, v7, (B.length : Int), 0] := ⟨c, d, B, hw, z7, rfl, by show (0 : Int) ≤ 0; decide, by show 0 ≤ (B.length : Int); omega, fun j hj => by
    have hj : j ∈ B := hj
    show 0 ≤ d j
    have := ((hw.mem j).1 hj).2.1
    omega⟩
  have yO2 : leO2.ent.pre [v11, v12, v13, v14, v15, v16, kk, v7, (B.length : Int), 0] := by
    refine ⟨c, _, _, B, t1, z7, rfl, by omega, by show (0 : Int) ≤ 0; decide, by show 0 ≤ (B.length : Int); omega, by show 0 ≤ kk; omega, fun j hj => ?_⟩
    have e : B.getD j 0 = B[j] := by simp [List.getD, hj]
    have hmB : B[j] ∈ B := List.getElem_mem _
    rw [e]
    obtain ⟨g1, g2, g3⟩ := (hw.mem _).1 hmB
    refine ⟨g1, ?_⟩
    show (if B[j] ∈ B.take m.toNat then 0 else d B[j]) ≠ 0 ↔ kk ≤ (j : Int)
    rw [List.length_take] at hkB
    have hiff : B[j] ∈ B.take m.toNat ↔ j < m.toNat := by
      rw [List.mem_take_iff_getElem]
      constructor
      · rintro ⟨a, ha, he⟩
        have := (List.getElem_inj hw.nd).1 he
        omega
      · intro h; exact ⟨j, by omega, rfl⟩
    by_cases hq : j < m.toNat
    · rw [if_pos (hiff.2 hq)]; constructor
      · intro h; exact absurd rfl h
      · intro h; omega
    · rw [if_neg (fun h => hq (hiff.1 h))]; constructor
      · intro _; omega
      · intro _; omega
  have wk : IntKind.i64.wrap ((B.length : Int) - kk) = (B.length : Int) - kk := i64w (by omega) (by omega)
  refine ⟨?_, trivial⟩
  simp (disch := omega) only [ob_11, q_11_0, q_11_1, q_11_2, q_11_3, q_11_4, q_11_5, q_11_6, q_11_7, ewA, ewL, preC, binI, dvI, shI, cmpB, env, bi, List.headD, List.tail, List.map, Nat.reduceAdd, ewR, ewB, ewM, if_true, if_false, implies_true, forall_const, ne_eq, reduceCtorEq, Int.reduceEq, Int.reduceLT, Int.reduceLE, Int.reduceToNat, Int.reduceAdd, Int.reduceSub, Int.reduceMul, Int.reduceNeg, Int.reduceBEq, Nat.reduceLT, Nat.reduceEqDiff, hSS, hm, hl7, wB, hkk, ← hP, ← hR, hl9, hl10, hl19, z20, z22, t5, wk]
  have hler := hw.ler
  have k1 : 0 ≤ kk ∧ kk ≤ (B.length : Int) := by omega
  have e23 : v23 = (B.length : Int) - kk := by
    rw [z23, hld]; rw [List.length_take] at hkB; omega
  have e24 : v24 = IntKind.i64.wrap (v8 - kk) := by
    rw [z24, t7, z8, ← hkB]; exact (i64w (by omega) (by omega)).symm
  exact ⟨⟨y22, y28, ⟨y31, y20⟩, yO1, y37, y38, y17, ⟨y39, k1, ya, y31b, k1, yb, y16, fun _ => y20b⟩, fun _ => yO2⟩, e23, e24⟩

end
end Go.Proofs.Ytfhheeoejncfgaa.Ew
