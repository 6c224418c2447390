/- Layer 19: LazyQuiet. -/
import Derived.Test.YtnockichpnaoeaaLh
set_option linter.unusedVariables false
set_option linter.unusedSimpArgs false
namespace Go.Proofs.Ytnockichpnaoeaa.Ew
open Go Go.RowKit
noncomputable section
--P Try.prog G0

def b3 : Ent := ⟨303, 3, [i64, i64, i64], [], [], .lt .b 1, z0, T0⟩
def cQ : Ctx := ⟨[z10, e25, z12, z13, z15, z16, z17], [(3, pQ1, leQ1), (3, pQ2, leQ2)]⟩
def cQn : Ctx := ⟨[z10.nm, e25, z12.nm, z13.nm, z15.nm, z16.nm, z17.nm], [(3, pQ1, leQ1.nm), (3, pQ2, leQ2.nm)]⟩

def a_z3_0 : List E := [(.app (.i .i64) 25 0 [(.var (.i .i64) 0), (.lit (.i .i64) 1073741824)]), (.lit (.i .i64) 1), (.lit (.i .i64) 1), (.lit (.i .i64) 1)]
def a_z3_1 : List E := [(.var .x 640001996800000), (.var (.i .i64) 640001996800001), (.var (.i .i64) 640001996800002), (.var (.i .i64) 640001996800003), (.var (.i .i64) 640001996800004), (.var .x 640001996800005), (.var (.i .i64) 640001996800006), (.var (.i .i64) 640001996800007), (.var (.i .i64) 640001996800008), (.var .x 640001996800009), (.lit (.i .i64) 0), (.bin .add .i64 (.app (.i .i64) 25 0 [(.var (.i .i64) 0), (.lit (.i .i64) 1073741824)]) (.bin .add .i64 (.lit (.i .i64) 1) (.app (.i .i64) 25 0 [(.var (.i .i64) 2), (.lit (.i .i64) 600)])))]
def a_z3_2 : List E := [(.app (.i .i64) 25 0 [(.var (.i .i64) 0), (.lit (.i .i64) 1073741824)]), (.app (.i .i64) 25 0 [(.var (.i .i64) 1), (.lit (.i .i64) 200)]), (.bin .add .i64 (.lit (.i .i64) 1) (.app (.i .i64) 25 0 [(.var (.i .i64) 2), (.lit (.i .i64) 600)])), (.var .x 640002003200512), (.var (.i .i64) 640002003200513), (.var (.i .i64) 640002003200514), (.var (.i .i64) 640002003200515), (.var (.i .i64) 640002003200516), (.var .x 640002003200517), (.var (.i .i64) 640002003200518), (.var (.i .i64) 640002003200519), (.var (.i .i64) 640002003200520), (.var .x 640002003200521), (.lit (.i .i64) 1)]
def a_z3_3 : List E := [(.ite (.cmp .eql (.bin .add .i64 (.lit (.i .i64) 1) (.app (.i .i64) 25 0 [(.var (.i .i64) 2), (.lit (.i .i64) 600)])) (.lit (.i .i64) 1)) (.lit (.i .i64) 0) (.app (.i .i64) 25 0 [(.var (.i .i64) 1), (.lit (.i .i64) 200)])), (.bin .add .i64 (.lit (.i .i64) 1) (.app (.i .i64) 25 0 [(.var (.i .i64) 2), (.lit (.i .i64) 600)])), (.var .x 640057619201024), (.var (.i .i64) 640057619201025), (.var (.i .i64) 640057619201026), (.var (.i .i64) 640057619201027), (.var (.i .i64) 640057619201028), (.var .x 640057619201029), (.var (.i .i64) 640057619201030), (.var (.i .i64) 640057619201031), (.var (.i .i64) 640057619201032), (.var .x 640057619201033), (.bin .add .i64 (.ite (.cmp .eql (.bin .add .i64 (.lit (.i .i64) 1) (.app (.i .i64) 25 0 [(.var (.i .i64) 2), (.lit (.i .i64) 600)])) (.lit (.i .i64) 1)) (.lit (.i .i64) 0) (.app (.i .i64) 25 0 [(.var (.i .i64) 1), (.lit (.i .i64) 200)])) (.lit (.i .i64) 1))]
def a_z3_4 : List E := [(.var .x 640058259201152), (.var (.i .i64) 640058259201153), (.var (.i .i64) 640058259201154), (.var (.i .i64) 640058259201155), (.var (.i .i64) 640058259201156), (.var .x 640058259201157), (.var (.i .i64) 640058259201158), (.var (.i .i64) 640058259201159), (.var (.i .i64) 640058259201160), (.var .x 640058259201161)]
def defs_z3 : List (Nat × E) := [(640001996800000, (.app .x 100000312 0 a_z3_0)),
  (640001996800001, (.app (.i .i64) 100000312 1 a_z3_0)),
  (640001996800002, (.app (.i .i64) 100000312 2 a_z3_0)),
  (640001996800003, (.app (.i .i64) 100000312 3 a_z3_0)),
  (640001996800004, (.app (.i .i64) 100000312 4 a_z3_0)),
  (640001996800005, (.app .x 100000312 5 a_z3_0)),
  (640001996800006, (.app (.i .i64) 100000312 6 a_z3_0)),
  (640001996800007, (.app (.i .i64) 100000312 7 a_z3_0)),
  (640001996800008, (.app (.i .i64) 100000312 8 a_z3_0)),
  (640001996800009, (.app .x 100000312 9 a_z3_0)),
  (640002003200512, (.app .x 100000313 0 a_z3_1)),
  (640002003200513, (.app (.i .i64) 100000313 1 a_z3_1)),
  (640002003200514, (.app (.i .i64) 100000313 2 a_z3_1)),
  (640002003200515, (.app (.i .i64) 100000313 3 a_z3_1)),
  (640002003200516, (.app (.i .i64) 100000313 4 a_z3_1)),
  (640002003200517, (.app .x 100000313 5 a_z3_1)),
  (640002003200518, (.app (.i .i64) 100000313 6 a_z3_1)),
  (640002003200519, (.app (.i .i64) 100000313 7 a_z3_1)),
  (640002003200520, (.app (.i .i64) 100000313 8 a_z3_1)),
  (640002003200521, (.app .x 100000313 9 a_z3_1)),
  (640002003200522, (.app (.i .i64) 100000313 10 a_z3_1)),
  (640057619201024, (.app .x 100009003 0 a_z3_2)),
  (640057619201025, (.app (.i .i64) 100009003 1 a_z3_2)),
  (640057619201026, (.app (.i .i64) 100009003 2 a_z3_2)),
  (640057619201027, (.app (.i .i64) 100009003 3 a_z3_2)),
  (640057619201028, (.app (.i .i64) 100009003 4 a_z3_2)),
  (640057619201029, (.app .x 100009003 5 a_z3_2)),
  (640057619201030, (.app (.i .i64) 100009003 6 a_z3_2)),
  (640057619201031, (.app (.i .i64) 100009003 7 a_z3_2)),
  (640057619201032, (.app (.i .i64) 100009003 8 a_z3_2)),
  (640057619201033, (.app .x 100009003 9 a_z3_2)),
  (640058259201152, (.app .x 100009103 0 a_z3_3)),
  (640058259201153, (.app (.i .i64) 100009103 1 a_z3_3)),
  (640058259201154, (.app (.i .i64) 100009103 2 a_z3_3)),
  (640058259201155, (.app (.i .i64) 100009103 3 a_z3_3)),
  (640058259201156, (.app (.i .i64) 100009103 4 a_z3_3)),
  (640058259201157, (.app .x 100009103 5 a_z3_3)),
  (640058259201158, (.app (.i .i64) 100009103 6 a_z3_3)),
  (640058259201159, (.app (.i .i64) 100009103 7 a_z3_3)),
  (640058259201160, (.app (.i .i64) 100009103 8 a_z3_3)),
  (640058259201161, (.app .x 100009103 9 a_z3_3)),
  (640002016001280, (.app (.i .i64) 100000315 0 a_z3_4)),
  (640002022401280, (.app (.i .i64) 100000316 0 a_z3_4)),
  (640002028801280, (.app (.i .i64) 100000317 0 a_z3_4))]
def q_z3_0 : E := (.app (.i .i64) 25 0 [(.var (.i .i64) 0), (.lit (.i .i64) 1073741824)])
def q_z3_1 : E := (.bin .add .i64 (.lit (.i .i64) 1) (.app (.i .i64) 25 0 [(.var (.i .i64) 2), (.lit (.i .i64) 600)]))
def q_z3_2 : E := (.cmp .eql q_z3_1 (.lit (.i .i64) 1))
def q_z3_3 : E := (.ite q_z3_2 (.lit (.i .i64) 0) (.app (.i .i64) 25 0 [(.var (.i .i64) 1), (.lit (.i .i64) 200)]))
def q_z3_4 : E := (.or (.cmp .neq (.var (.i .i64) 640002016001280) (.lit (.i .i64) 0)) (.cmp .neq (.var (.i .i64) 640002022401280) (.bin .add .i64 (.bin .add .i64 q_z3_0 q_z3_3) q_z3_1)))
def q_z3_5 : E := (.and (.app .b 100000317 1000000 [(.var .x 640058259201152), (.var (.i .i64) 640058259201153), (.var (.i .i64) 640058259201154), (.var (.i .i64) 640058259201155), (.var (.i .i64) 640058259201156), (.var .x 640058259201157), (.var (.i .i64) 640058259201158), (.var (.i .i64) 640058259201159), (.var (.i .i64) 640058259201160), (.var .x 640058259201161)]) (dE defs_z3 43 1))
def q_z3_6 : E := (.and q_z3_2 (.cmp .eql (.var (.i .i64) 640002028801280) (.lit (.i .i64) 0)))
def q_z3_7 : E := (.cmp .gtr q_z3_1 (.lit (.i .i64) 1))
def ob_z3 : E := (.and (.and (.app .b 100000310 1000000 []) (.and (.and (.app .b 25 1000000 [(.var (.i .i64) 0), (.lit (.i .i64) 1073741824)]) (.and (.app .b 25 1000000 [(.var (.i .i64) 1), (.lit (.i .i64) 200)]) (.app .b 25 1000000 [(.var (.i .i64) 2), (.lit (.i .i64) 600)]))) (.and (.and (.app .b 100000312 1000000 [q_z3_0, (.lit (.i .i64) 1), (.lit (.i .i64) 1), (.lit (.i .i64) 1)]) (dE defs_z3 0 10)) (.and (.and (.app .b 100000313 1000000 [(.var .x 640001996800000), (.var (.i .i64) 640001996800001), (.var (.i .i64) 640001996800002), (.var (.i .i64) 640001996800003), (.var (.i .i64) 640001996800004), (.var .x 640001996800005), (.var (.i .i64) 640001996800006), (.var (.i .i64) 640001996800007), (.var (.i .i64) 640001996800008), (.var .x 640001996800009), (.lit (.i .i64) 0), (.bin .add .i64 q_z3_0 q_z3_1)]) (dE defs_z3 10 11)) (.or (.cmp .neq (.var (.i .i64) 640002003200522) (.lit (.i .i64) 0)) (.and (.and (.app .b 100009003 1000000 [q_z3_0, (.app (.i .i64) 25 0 [(.var (.i .i64) 1), (.lit (.i .i64) 200)]), q_z3_1, (.var .x 640002003200512), (.var (.i .i64) 640002003200513), (.var (.i .i64) 640002003200514), (.var (.i .i64) 640002003200515), (.var (.i .i64) 640002003200516), (.var .x 640002003200517), (.var (.i .i64) 640002003200518), (.var (.i .i64) 640002003200519), (.var (.i .i64) 640002003200520), (.var .x 640002003200521), (.lit (.i .i64) 1)]) (dE defs_z3 21 10)) (.and (.and (.app .b 100009103 1000000 [q_z3_3, q_z3_1, (.var .x 640057619201024), (.var (.i .i64) 640057619201025), (.var (.i .i64) 640057619201026), (.var (.i .i64) 640057619201027), (.var (.i .i64) 640057619201028), (.var .x 640057619201029), (.var (.i .i64) 640057619201030), (.var (.i .i64) 640057619201031), (.var (.i .i64) 640057619201032), (.var .x 640057619201033), (.bin .add .i64 q_z3_3 (.lit (.i .i64) 1))]) (dE defs_z3 31 10)) (.and (.and (.and (.app .b 100000315 1000000 [(.var .x 640058259201152), (.var (.i .i64) 640058259201153), (.var (.i .i64) 640058259201154), (.var (.i .i64) 640058259201155), (.var (.i .i64) 640058259201156), (.var .x 640058259201157), (.var (.i .i64) 640058259201158), (.var (.i .i64) 640058259201159), (.var (.i .i64) 640058259201160), (.var .x 640058259201161)]) (dE defs_z3 41 1)) (.or (.cmp .neq (.var (.i .i64) 640002016001280) (.lit (.i .i64) 0)) (.and (.app .b 100000316 1000000 [(.var .x 640058259201152), (.var (.i .i64) 640058259201153), (.var (.i .i64) 640058259201154), (.var (.i .i64) 640058259201155), (.var (.i .i64) 640058259201156), (.var .x 640058259201157), (.var (.i .i64) 640058259201158), (.var (.i .i64) 640058259201159), (.var (.i .i64) 640058259201160), (.var .x 640058259201161)]) (dE defs_z3 42 1)))) (.or q_z3_4 (.and (.or (.not q_z3_2) q_z3_5) (.or (.not (.and (.not q_z3_6) q_z3_7)) q_z3_5))))))))))) (.and (.not (.cmp .neq (.var (.i .i64) 640002003200522) (.lit (.i .i64) 0))) (.and (.not q_z3_4) (.or q_z3_6 (.and q_z3_7 (.cmp .leq (.bin .mul .i64 (.var (.i .i64) 640002028801280) (.bin .sub .i64 q_z3_1 (.lit (.i .i64) 1))) (.bin .sub .i64 (.bin .add .i64 q_z3_3 q_z3_1) (.lit (.i .i64) 2))))))))
def es_z3 : List E := []
def z3 : Ent := b3.fw (fnR cQn.l.F b3.np ob_z3 es_z3 postT)
theorem ev_z3 : evE Try.prog G0 (tabOf cQn.fs) (ltOf cQn.ls) 40 10 z3 = some (ob_z3, es_z3) := by kernel_rfl

theorem cQnok : cQn.OK Try.prog G0 := by
  have h1 : Ctx.OK Try.prog G0 ⟨[z10.nm, e25, z12.nm, z13.nm, z15.nm, z16.nm, z17.nm], []⟩ := ((((((Ctx.OK.nil.addF okz17.nm rfl).addF okz16.nm rfl).addF okz15.nm rfl).addF okz13.1.nm rfl).addF okz12.1.nm rfl).addF ok25 rfl).addF okz10.1.nm rfl
  exact (h1.addL (CodeOK.nm okQ2.1) rfl).addL (CodeOK.nm okQ1.1) rfl

theorem QI.toE {n m k M S now bu le mo T h ln vn D : Int} (q2 : QI n m (1 + k) S now bu le mo T h ln vn D (if 1 + k = 1 then 1 else m + 1)) (rk : 0 ≤ k) (rM : 0 ≤ M ∧ M < 200) (hM : k = 0 ∧ M = 0 ∨ 0 < k ∧ M = m) : QE M (1 + k) S now bu le mo T h ln vn D (M + 1) ∧ now = n + M := by
  obtain ⟨d, a, hz, e1, e2, e3, e4, e5, e6, e7, e8, e9, e10, e11, e12, e13, e14⟩ := q2
  obtain ⟨ad1, ad2, ad3⟩ := hz.ad 0 (by decide)
  have hvb := hz.vb
  obtain ⟨w, hw⟩ : ∃ w, w = vn * k := ⟨_, rfl⟩
  have g0 : vn * (1 + k - 1) = w := by rw [show (1 + k - 1 : Int) = k by omega, hw]
  have g1 : (vn + 1) * (1 + k - 1) = w + k := by rw [show (1 + k - 1 : Int) = k by omega, Int.add_mul, hw, Int.one_mul]
  rw [g0] at e2
  by_cases h : 1 + k = 1
  · rw [if_pos h] at e1 e4 e7 e8
    have hk : k = 0 := by omega
    have hw0 : w = 0 := by rw [hw, hk, Int.mul_zero]
    exact ⟨⟨d, a, hz, Or.inl ⟨by omega, e3, Or.inl ⟨by omega, Or.inl ⟨h, by omega⟩⟩⟩, e5, e6, by omega, by omega, by omega, by omega, e11, rM, by omega⟩, by omega⟩
  · rw [if_neg h] at e1 e4 e7 e8
    refine ⟨⟨d, a, hz, Or.inl ⟨by omega, e3, ?_⟩, e5, e6, by omega, by omega, by omega, by omega, e11, rM, by omega⟩, by omega⟩
    by_cases ha : a 0 = d 0
    · exact Or.inl ⟨ha, Or.inr ⟨by omega, by rw [g0]; omega⟩⟩
    · exact Or.inr ⟨by omega, Or.inr ⟨by omega, by rw [g1]; omega⟩⟩
theorem QE.fin {M k S now bu le mo T h ln vn D v42 v43 v44 : Int} (q : QE M (1 + k) S now bu le mo T h ln vn D (M + (1 + k) + 1)) (rk : 0 ≤ k ∧ k < 600) (rM : 0 ≤ M ∧ M < 200)
    (h1 : v42 = IntKind.i64.wrap (z15.fn 0 [S, now, bu, le, mo, T, h, ln, vn, D])) (h2 : v43 = IntKind.i64.wrap (z16.fn 0 [S, now, bu, le, mo, T, h, ln, vn, D])) (h3 : v44 = IntKind.i64.wrap (z17.fn 0 [S, now, bu, le, mo, T, h, ln, vn, D])) :
    v42 = 0 ∧ v43 = now ∧ v44 = vn ∧ z16.pre [S, now, bu, le, mo, T, h, ln, vn, D] ∧ ((1 + k = 1 → ¬ vn = 0) → 1 < 1 + k ∧ IntKind.i64.wrap (vn * k) ≤ M + (1 + k) - 2) := by
  obtain ⟨d, a, hz, e1, e5, e6, e7, e8, e9, e10, e11, e13, e14⟩ := q
  obtain ⟨ad1, ad2, ad3⟩ := hz.ad 0 (by decide)
  have hvb := hz.vb
  have htm := hz.w.tm
  obtain ⟨d0, qv⟩ : d 0 = 0 ∧ QV M (1 + k) vn := by
    rcases e1 with h | h
    · omega
    · exact h.2
  have a0 := ad1.2 d0
  have z42 : v42 = 0 := by
    rw [hz.lenV h1, hz.ln, hz.w.len]
    show ((cnt 1 fun i => decide (0 < a i) : Nat) : Int) = 0
    simp [cnt, a0]
  refine ⟨z42, h2.trans (i64w (by show _ ≤ now; omega) (by show now ≤ _; omega)), hz.vain h3, hz.w.lenOK _, fun hh => ?_⟩
  rcases qv with ⟨q1, q2⟩ | ⟨q1, q2⟩
  · exact absurd q2 (hh q1)
  · refine ⟨q1, ?_⟩
    rw [show (1 + k - 1 : Int) = k by omega] at q2
    have := Int.mul_nonneg hvb.1 rk.1
    rw [i64w (by omega) (by omega)]
    omega

theorem qiW {n M k a b : Int} (rn : 0 ≤ n ∧ n < 1073741824) (rM : 0 ≤ M ∧ M < 200) (rk : 0 ≤ k ∧ k < 600) (q5 : a = b + (M + (1 + k) + 1 - (M + 1))) (h : b = n + M) :
    IntKind.i64.wrap (n + M) = n + M ∧ IntKind.i64.wrap (n + M + (1 + k)) = n + M + (1 + k) ∧ IntKind.i64.wrap (1 + k - 1) = k ∧ IntKind.i64.wrap (M + (1 + k)) = M + (1 + k) ∧ IntKind.i64.wrap (M + (1 + k) - 2) = M + (1 + k) - 2 ∧ a = n + M + (1 + k) := by
  refine ⟨i64w (by omega) (by omega), i64w (by omega) (by omega), ?_, i64w (by omega) (by omega), i64w (by omega) (by omega), by omega⟩
  rw [show (1 + k - 1 : Int) = k by omega]; exact i64w (by omega) (by omega)
set_option maxHeartbeats 4000000 in
theorem okz3 : EntryOK Try.prog G0 z3 ∧ PostOK z3 postT := by
  refine cQnok.entryH mixed ev_z3 (by kernel_rfl) _ rfl fun xs hf hp => ?_
  obtain ⟨l, hl, hF⟩ := ctx_P (l0 := cQn.l)
  show ∃ ρ : Nat → Int, _ ∧ ob_z3.tt cQn.l.F ρ = true ∧ postT xs (es_z3.map (E.den cQn.l.F ρ))
  rw [hl]
  have F25 := FC (k := 25) rfl (hF e25 (by rfl) (by decide))
  have F310 := FC (k := 100000310) rfl (hF z10.nm (by rfl) (by decide))
  have F312 := FC (k := 100000312) rfl (hF z12.nm (by rfl) (by decide))
  have F313 := FC (k := 100000313) rfl (hF z13.nm (by rfl) (by decide))
  have F315 := FC (k := 100000315) rfl (hF z15.nm (by rfl) (by decide))
  have F316 := FC (k := 100000316) rfl (hF z16.nm (by rfl) (by decide))
  have F317 := FC (k := 100000317) rfl (hF z17.nm (by rfl) (by decide))
  have F9003 := FC (k := 100009003) rfl (hF leQ1.nm.ent (by rfl) (by decide))
  have F9103 := FC (k := 100009103) rfl (hF leQ2.nm.ent (by rfl) (by decide))
  replace hf : fits [(.i .i64), (.i .i64), (.i .i64)] xs := hf
  obtain ⟨n0, xs0, hx0, hn0, hf0⟩ := fits_cons hf
  obtain ⟨m0, xs1, hx1, hm0, hf1⟩ := fits_cons hf0
  obtain ⟨k0, xs2, hx2, hk0, hf2⟩ := fits_cons hf1
  have hxn := fits_nil hf2
  subst hxn hx2 hx1 hx0
  simp only [norm_i] at hn0 hm0 hk0
  obtain ⟨ρ, hρ, hd⟩ := solve (F := l.F) 3 defs_z3 (by kernel_rfl) [n0, m0, k0]
  have hDf := dE_tt (by kernel_rfl) hd
  refine ⟨ρ, hρ, ?_⟩
  have r0 : ρ 0 = n0 := hρ 0 (by decide)
  have r1 : ρ 1 = m0 := hρ 1 (by decide)
  have r2 : ρ 2 = k0 := hρ 2 (by decide)
  obtain ⟨v1, hv1, hd1, hn1⟩ := nmd hd 0 rfl
  obtain ⟨v2, hv2, hd2, hn2⟩ := nmd hd 1 rfl
  obtain ⟨v3, hv3, hd3, hn3⟩ := nmd hd 2 rfl
  obtain ⟨v4, hv4, hd4, hn4⟩ := nmd hd 3 rfl
  obtain ⟨v5, hv5, hd5, hn5⟩ := nmd hd 4 rfl
  obtain ⟨v6, hv6, hd6, hn6⟩ := nmd hd 5 rfl
  obtain ⟨v7, hv7, hd7, hn7⟩ := nmd hd 6 rfl
  obtain ⟨v8, hv8, hd8, hn8⟩ := nmd hd 7 rfl
  obtain ⟨v9, hv9, hd9, hn9⟩ := nmd hd 8 rfl
  obtain ⟨v10, hv10, hd10, hn10⟩ := nmd hd 9 rfl
  obtain ⟨v11, hv11, hd11, hn11⟩ := nmd hd 10 rfl
  obtain ⟨v12, hv12, hd12, hn12⟩ := nmd hd 11 rfl
  obtain ⟨v13, hv13, hd13, hn13⟩ := nmd hd 12 rfl
  obtain ⟨v14, hv14, hd14, hn14⟩ := nmd hd 13 rfl
  obtain ⟨v15, hv15, hd15, hn15⟩ := nmd hd 14 rfl
  obtain ⟨v16, hv16, hd16, hn16⟩ := nmd hd 15 rfl
  obtain ⟨v17, hv17, hd17, hn17⟩ := nmd hd 16 rfl
  obtain ⟨v18, hv18, hd18, hn18⟩ := nmd hd 17 rfl
  obtain ⟨v19, hv19, hd19, hn19⟩ := nmd hd 18 rfl
  obtain ⟨v20, hv20, hd20, hn20⟩ := nmd hd 19 rfl
  obtain ⟨v21, hv21, hd21, hn21⟩ := nmd hd 20 rfl
  obtain ⟨v22, hv22, hd22, hn22⟩ := nmd hd 21 rfl
  obtain ⟨v23, hv23, hd23, hn23⟩ := nmd hd 22 rfl
  obtain ⟨v24, hv24, hd24, hn24⟩ := nmd hd 23 rfl
  obtain ⟨v25, hv25, hd25, hn25⟩ := nmd hd 24 rfl
  obtain ⟨v26, hv26, hd26, hn26⟩ := nmd hd 25 rfl
  obtain ⟨v27, hv27, hd27, hn27⟩ := nmd hd 26 rfl
  obtain ⟨v28, hv28, hd28, hn28⟩ := nmd hd 27 rfl
  obtain ⟨v29, hv29, hd29, hn29⟩ := nmd hd 28 rfl
  obtain ⟨v30, hv30, hd30, hn30⟩ := nmd hd 29 rfl
  obtain ⟨v31, hv31, hd31, hn31⟩ := nmd hd 30 rfl
  obtain ⟨v32, hv32, hd32, hn32⟩ := nmd hd 31 rfl
  obtain ⟨v33, hv33, hd33, hn33⟩ := nmd hd 32 rfl
  obtain ⟨v34, hv34, hd34, hn34⟩ := nmd hd 33 rfl
  obtain ⟨v35, hv35, hd35, hn35⟩ := nmd hd 34 rfl
  obtain ⟨v36, hv36, hd36, hn36⟩ := nmd hd 35 rfl
  obtain ⟨v37, hv37, hd37, hn37⟩ := nmd hd 36 rfl
  obtain ⟨v38, hv38, hd38, hn38⟩ := nmd hd 37 rfl
  obtain ⟨v39, hv39, hd39, hn39⟩ := nmd hd 38 rfl
  obtain ⟨v40, hv40, hd40, hn40⟩ := nmd hd 39 rfl
  obtain ⟨v41, hv41, hd41, hn41⟩ := nmd hd 40 rfl
  obtain ⟨v42, hv42, hd42, hn42⟩ := nmd hd 41 rfl
  obtain ⟨v43, hv43, hd43, hn43⟩ := nmd hd 42 rfl
  obtain ⟨v44, hv44, hd44, hn44⟩ := nmd hd 43 rfl
  simp only [norm_i] at hn2 hn3 hn4 hn5 hn7 hn8 hn9 hn12 hn13 hn14 hn15 hn17 hn18 hn19 hn21 hn23 hn24 hn25 hn26 hn28 hn29 hn30 hn33 hn34 hn35 hn36 hn38 hn39 hn40 hn42 hn43 hn44
  simp (disch := omega) only [norm_i, a_z3_0, a_z3_1, a_z3_2, a_z3_3, a_z3_4, F312, F313, F315, F316, F317, F9003, F9103, Ent.nm_fn, r0, hn0, r1, hm0, r2, hk0, hv1, hv2, hn2, hv3, hn3, hv4, hn4, hv5, hn5, hv6, hv7, hn7, hv8, hn8, hv9, hn9, hv10, hv11, hv12, hn12, hv13, hn13, hv14, hn14, hv15, hn15, hv16, hv17, hn17, hv18, hn18, hv19, hn19, hv20, hv21, hn21, hv22, hv23, hn23, hv24, hn24, hv25, hn25, hv26, hn26, hv27, hv28, hn28, hv29, hn29, hv30, hn30, hv31, hv32, hv33, hn33, hv34, hn34, hv35, hn35, hv36, hn36, hv37, hv38, hn38, hv39, hn39, hv40, hn40, hv41, hv42, hn42, hv43, hn43, hv44, hn44, ewA, ewL, preC, binI, dvI, shI, cmpB, env, bi, List.headD, List.tail, List.map, Nat.reduceAdd, ewR, ewB, ewM, if_true, if_false, implies_true, forall_const, ne_eq, reduceCtorEq, Int.reduceEq, Int.reduceLT, Int.reduceLE, Int.reduceToNat, Int.reduceAdd, Int.reduceSub, Int.reduceMul, Int.reduceNeg, Int.reduceBEq, Nat.reduceLT, Nat.reduceEqDiff] at hd1 hd2 hd3 hd4 hd5 hd6 hd7 hd8 hd9 hd10 hd11 hd12 hd13 hd14 hd15 hd16 hd17 hd18 hd19 hd20 hd21 hd22 hd23 hd24 hd25 hd26 hd27 hd28 hd29 hd30 hd31 hd32 hd33 hd34 hd35 hd36 hd37 hd38 hd39 hd40 hd41 hd42 hd43 hd44
  have hSS := And.intro (And.intro (And.intro (And.intro (And.intro (And.intro F25 F310) (And.intro F312 (And.intro F313 F315))) (And.intro (And.intro F316 (And.intro F317 F9003)) (And.intro F9103 (And.intro r0 hn0)))) (And.intro (And.intro (And.intro r1 (And.intro hm0 r2)) (And.intro hk0 (And.intro hv1 hv2))) (And.intro (And.intro hn2 (And.intro hv3 hn3)) (And.intro hv4 (And.intro hn4 hv5))))) (And.intro (And.intro (And.intro (And.intro hn5 hv6) (And.intro hv7 (And.intro hn7 hv8))) (And.intro (And.intro hn8 (And.intro hv9 hn9)) (And.intro hv10 (And.intro hv11 hv12)))) (And.intro (And.intro (And.intro hn12 (And.intro hv13 hn13)) (And.intro hv14 (And.intro hn14 hv15))) (And.intro (And.intro hn15 (And.intro hv16 hv17)) (And.intro hn17 (And.intro hv18 hn18)))))) (And.intro (And.intro (And.intro (And.intro (And.intro hv19 hn19) (And.intro hv20 (And.intro hv21 hn21))) (And.intro (And.intro hv22 (And.intro hv23 hn23)) (And.intro hv24 (And.intro hn24 hv25)))) (And.intro (And.intro (And.intro hn25 (And.intro hv26 hn26)) (And.intro hv27 (And.intro hv28 hn28))) (And.intro (And.intro hv29 (And.intro hn29 hv30)) (And.intro hn30 (And.intro hv31 hv32))))) (And.intro (And.intro (And.intro (And.intro hv33 hn33) (And.intro hv34 (And.intro hn34 hv35))) (And.intro (And.intro hn35 (And.intro hv36 hn36)) (And.intro hv37 (And.intro hv38 hn38)))) (And.intro (And.intro (And.intro hv39 (And.intro hn39 hv40)) (And.intro hn40 (And.intro hv41 hv42))) (And.intro (And.intro hn42 (And.intro hv43 hn43)) (And.intro hv44 (And.intro hn44 hDf))))))
  have f1 : ∀ a b, e25.fn 0 [a, b] = a % b := fun _ _ => rfl
  obtain ⟨n, en, rn⟩ : ∃ n, n0 % 1073741824 = n ∧ 0 ≤ n ∧ n < 1073741824 := ⟨_, rfl, by omega, by omega⟩
  obtain ⟨m, em, rm⟩ : ∃ m, m0 % 200 = m ∧ 0 ≤ m ∧ m < 200 := ⟨_, rfl, by omega, by omega⟩
  obtain ⟨k, ek, rk⟩ : ∃ k, k0 % 600 = k ∧ 0 ≤ k ∧ k < 600 := ⟨_, rfl, by omega, by omega⟩
  have wn : IntKind.i64.wrap n = n := i64w (by omega) (by omega)
  have wm : IntKind.i64.wrap m = m := i64w (by omega) (by omega)
  have wk : IntKind.i64.wrap k = k := i64w (by omega) (by omega)
  have wk1 : IntKind.i64.wrap (1 + k) = 1 + k := i64w (by omega) (by omega)
  have wx : IntKind.i64.wrap (n + (1 + k)) = n + (1 + k) := i64w (by omega) (by omega)
  simp only [hSS, f1, en, em, ek, wn, wm, wk, wk1, wx] at hd1 hd2 hd3 hd4 hd5 hd6 hd7 hd8 hd9 hd10 hd11 hd12 hd13 hd14 hd15 hd16 hd17 hd18 hd19 hd20 hd21 hd22 hd23 hd24 hd25 hd26 hd27 hd28 hd29 hd30 hd31 hd32 hd33 hd34 hd35 hd36 hd37 hd38 hd39 hd40 hd41
  obtain ⟨M, eM, rM, hM⟩ : ∃ M, (if 1 + k = 1 then (0 : Int) else m) = M ∧ (0 ≤ M ∧ M < 200) ∧ (k = 0 ∧ M = 0 ∨ 0 < k ∧ M = m) := by
    by_cases h : 1 + k = 1
    · exact ⟨_, if_pos h, by omega, by omega⟩
    · exact ⟨_, if_neg h, by omega, by omega⟩
  have wM : IntKind.i64.wrap (M + 1) = M + 1 := i64w (by omega) (by omega)
  have wM' : IntKind.i64.wrap M = M := i64w (by omega) (by omega)
  simp only [eM, wM] at hd32 hd33 hd34 hd35 hd36 hd37 hd38 hd39 hd40 hd41
  have y12 : z12.pre [n, 1, 1, 1] := by
    show newW n 1 1 ∧ (1 : Int) ≤ 1 ∧ (1 : Int) ≤ 4096
    unfold newW; omega
  obtain ⟨_, z0, n2, n3, n5, n7, n9⟩ := (PostOK.use (ks := [(.i .i64), (.i .i64), (.i .i64), (.i .i64)]) (os := [.x, (.i .i64), (.i .i64), (.i .i64), (.i .i64), .x, (.i .i64), (.i .i64), (.i .i64), .x]) (vs := [v1, v2, v3, v4, v5, v6, v7, v8, v9, v10]) okz12.2 rfl rfl ⟨hd1, hd2, hd3, hd4, hd5, hd6, hd7, hd8, hd9, hd10, trivial⟩) ⟨wn, rfl, rfl, rfl, trivial⟩ y12
  replace z0 : LZ v1 v2 v3 v4 v5 v6 v7 v8 v9 v10 1 (fun _ => 0) (fun _ => 0) [] := z0
  replace n2 : v2 = n := n2
  replace n3 : v3 = 1 := n3
  replace n5 : v5 = 0 := n5
  replace n7 : v7 = 1 := n7
  replace n9 : v9 = 0 := n9
  obtain ⟨_, z1, m1, m2, m3, m4, m5, m6⟩ := z0.touch (i := 0) (x := n + (1 + k)) (by decide) (by omega) ⟨hd11, hd12, hd13, hd14, hd15, hd16, hd17, hd18, hd19, hd20, hd21, trivial⟩
  have z1' : LZ v11 v12 v13 v14 v15 v16 v17 v18 v19 v20 1 (upD (fun _ => 0) 0 (n + (1 + k))) (if (0 : Int) = 0 ∨ n + (1 + k) < 0 then upD (fun _ => 0) 0 (n + (1 + k)) else (fun _ => 0)) [] := z1
  rw [if_pos (Or.inl rfl)] at z1'
  have q1 : QI n m (1 + k) v11 v12 v13 v14 v15 v16 v17 v18 v19 v20 1 := ⟨_, _, z1', by rw [upD_same]; omega, by rw [upD_same, m6, n9, Int.zero_mul]; omega, by rw [upD_same]; omega, by omega, by omega, by omega, by omega, by omega, by omega, by omega, by omega, by omega, by omega, fun _ => rfl⟩
  have y1 : leQ1.ent.pre [n, m, 1 + k, v11, v12, v13, v14, v15, v16, v17, v18, v19, v20, 1] := q1
  have q2 : QI n m (1 + k) v22 v23 v24 v25 v26 v27 v28 v29 v30 v31 (if 1 + k = 1 then 1 else m + 1) := (PostOK.use (ks := [(.i .i64), (.i .i64), (.i .i64), .x, (.i .i64), (.i .i64), (.i .i64), (.i .i64), .x, (.i .i64), (.i .i64), (.i .i64), .x, (.i .i64)]) (os := [.x, (.i .i64), (.i .i64), (.i .i64), (.i .i64), .x, (.i .i64), (.i .i64), (.i .i64), .x]) (vs := [v22, v23, v24, v25, v26, v27, v28, v29, v30, v31]) okQ1.2 rfl rfl ⟨hd22, hd23, hd24, hd25, hd26, hd27, hd28, hd29, hd30, hd31, trivial⟩) ⟨wn, wm, wk1, rfl, hn12, hn13, hn14, hn15, rfl, hn17, hn18, hn19, rfl, rfl, trivial⟩ y1
  obtain ⟨q3, h23⟩ := q2.toE (M := M) rk.1 rM hM
  have y2 : leQ2.ent.pre [M, 1 + k, v22, v23, v24, v25, v26, v27, v28, v29, v30, v31, M + 1] := q3
  obtain ⟨q4, q5⟩ := (PostOK.use (ks := [(.i .i64), (.i .i64), .x, (.i .i64), (.i .i64), (.i .i64), (.i .i64), .x, (.i .i64), (.i .i64), (.i .i64), .x, (.i .i64)]) (os := [.x, (.i .i64), (.i .i64), (.i .i64), (.i .i64), .x, (.i .i64), (.i .i64), (.i .i64), .x]) (vs := [v32, v33, v34, v35, v36, v37, v38, v39, v40, v41]) okQ2.2 rfl rfl ⟨hd32, hd33, hd34, hd35, hd36, hd37, hd38, hd39, hd40, hd41, trivial⟩) ⟨wM', wk1, rfl, hn23, hn24, hn25, hn26, rfl, hn28, hn29, hn30, rfl, wM, trivial⟩ y2
  replace q4 : QE M (1 + k) v32 v33 v34 v35 v36 v37 v38 v39 v40 v41 (M + (1 + k) + 1) := q4
  replace q5 : v33 = v23 + (M + (1 + k) + 1 - (M + 1)) := q5
  obtain ⟨z42, z43, z44, y16, qf⟩ := q4.fin rk rM hd42 hd43 hd44
  have y10 : z10.pre [] := trivial
  have yn : e25.pre [n0, 1073741824] := ⟨by show (0 : Int) < 1073741824; decide, by show (1073741824 : Int) ≤ _; decide⟩
  have ym : e25.pre [m0, 200] := ⟨by show (0 : Int) < 200; decide, by show (200 : Int) ≤ _; decide⟩
  have yk : e25.pre [k0, 600] := ⟨by show (0 : Int) < 600; decide, by show (600 : Int) ≤ _; decide⟩
  have y13 : z13.pre [v1, v2, v3, v4, v5, v6, v7, v8, v9, v10, 0, n + (1 + k)] := z0.p13 _ _
  have y15 : z15.pre [v32, v33, v34, v35, v36, v37, v38, v39, v40, v41] := trivial
  have y17 : z17.pre [v32, v33, v34, v35, v36, v37, v38, v39, v40, v41] := trivial
  subst m1
  have l1 : IntKind.i64.wrap 1 = 1 := rfl
  have l2 : IntKind.i64.wrap 2 = 2 := rfl
  have l3 : IntKind.i64.wrap 200 = 200 := rfl
  have l4 : IntKind.i64.wrap 600 = 600 := rfl
  have l5 : IntKind.i64.wrap 1073741824 = 1073741824 := rfl
  obtain ⟨w33, w34, w35, w36, w37, e33⟩ := qiW rn rM rk q5 h23
  refine ⟨?_, trivial⟩
  simp only [ob_z3, q_z3_0, q_z3_1, q_z3_2, q_z3_3, q_z3_4, q_z3_5, q_z3_6, q_z3_7, ewA, ewL, preC, binI, dvI, shI, cmpB, env, bi, List.headD, List.tail, List.map, Nat.reduceAdd, ewR, ewB, ewM, if_true, if_false, implies_true, forall_const, ne_eq, reduceCtorEq, Int.reduceEq, Int.reduceLT, Int.reduceLE, Int.reduceToNat, Int.reduceAdd, Int.reduceSub, Int.reduceMul, Int.reduceNeg, Int.reduceBEq, Nat.reduceLT, Nat.reduceEqDiff, hSS, l1, l2, l3, l4, l5, w33, w34, w35, w36, w37, f1, en, em, ek, wn, wm, wk, wk1, wx, eM, wM, y10, yn, ym, yk, y12, y13, y1, y2, y15, y16, y17, z42, z43, z44]
  exact ⟨e33, qf⟩

end
end Go.Proofs.Ytnockichpnaoeaa.Ew
