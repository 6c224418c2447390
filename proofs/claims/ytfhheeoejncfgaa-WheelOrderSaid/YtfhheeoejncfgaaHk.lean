/- Layer 18: remainders, a wheel of numbers. -/
import Derived.Test.YtfhheeoejncfgaaHj
set_option linter.unusedVariables false
set_option linter.unusedSimpArgs false
namespace Go.Proofs.Ytfhheeoejncfgaa.Ew
open Go Go.RowKit
noncomputable section
--P Try.prog G0

def e25 : Ent := ⟨25, 25, [i64, i64], [], [], i64, fun _ xs => env xs 0 % env xs 1, fun xs => 0 < env xs 1 ∧ env xs 1 ≤ 4611686018427387904⟩
def u8S : Sh := .sc (.i .u8)
def numS : Sh := .agg [u8S, u8S, i64, i64]
def capF (xs : List Int) : Int := 1 + env xs 3 % 600
def budF (xs : List Int) : Int := (capF xs + 255) / 256 + env xs 1 % 3
def exF (b : Int) : Int := if b % 4 ≤ 1 then 512 else if b % 4 = 2 then 65536 else 16777216
def nowF (xs : List Int) : Int := exF (env xs 0) - env xs 2 % 300
def fn23 (j : Nat) (xs : List Int) : Int := match j with
  | 0 => cd S0
  | 1 => nowF xs
  | 2 => budF xs
  | 3 => 0
  | 4 => 0
  | 5 => cd (Tn (capF xs))
  | 6 => capF xs
  | _ => budF xs
def e23 : Ent := ⟨23, 23, [numS], [], [], .tup [wsh, i64, i64], fn23, T0⟩
def cK : Ctx := ⟨[e13, e25], []⟩

def ob_25 : E := (.cmp .neq (.var (.i .i64) 1) (.lit (.i .i64) 0))
def es_25 : List E := [(.app (.i .i64) 0 21 [(.bin .add .i64 (.app (.i .i64) 0 21 [(.var (.i .i64) 0), (.var (.i .i64) 1)]) (.var (.i .i64) 1)), (.var (.i .i64) 1)])]
theorem ev_25 : evE Try.prog G0 (tabOf cI.fs) (ltOf cI.ls) 40 10 e25 = some (ob_25, es_25) := by kernel_rfl

def q_23_0 : E := (.bin .mul .i64 (.lit (.i .i64) 8) (.conv .i64 (.dv .rem .u8 (.var (.i .u8) 0) 4)))
def q_23_1 : E := (.ite (.cmp .gtr (.lit (.i .i64) 9) q_23_0) (.lit (.i .i64) 9) q_23_0)
def q_23_2 : E := (.bin .sub .i64 (.sh .shl .i64 (.lit (.i .i64) 1) q_23_1) (.app (.i .i64) 25 0 [(.var (.i .i64) 2), (.lit (.i .i64) 300)]))
def q_23_3 : E := (.bin .add .i64 (.lit (.i .i64) 1) (.app (.i .i64) 25 0 [(.var (.i .i64) 3), (.lit (.i .i64) 600)]))
def q_23_4 : E := (.bin .add .i64 (.dv .quo .i64 (.bin .add .i64 q_23_3 (.lit (.i .i64) 255)) 256) (.conv .i64 (.dv .rem .u8 (.var (.i .u8) 1) 3)))
def ob_23 : E := (.and (.app .b 25 1000000 [(.var (.i .i64) 3), (.lit (.i .i64) 600)]) (.and (.and (.cmp .geq q_23_1 (.lit (.i .i64) 0)) (.app .b 25 1000000 [(.var (.i .i64) 2), (.lit (.i .i64) 300)])) (.app .b 13 1000000 [q_23_2, q_23_3, q_23_4])))
def es_23 : List E := [(.app .x 13 0 [q_23_2, q_23_3, q_23_4]), (.app (.i .i64) 13 1 [q_23_2, q_23_3, q_23_4]), (.app (.i .i64) 13 2 [q_23_2, q_23_3, q_23_4]), (.app (.i .i64) 13 3 [q_23_2, q_23_3, q_23_4]), (.app (.i .i64) 13 4 [q_23_2, q_23_3, q_23_4]), (.app .x 13 5 [q_23_2, q_23_3, q_23_4]), q_23_3, q_23_4]
theorem ev_23 : evE Try.prog G0 (tabOf cK.fs) (ltOf cK.ls) 40 10 e23 = some (ob_23, es_23) := by kernel_rfl

theorem mod_mod {n b : Int} (h : 0 < b) : (n.tmod b + b).tmod b = n % b ∧ -b < n.tmod b ∧ n.tmod b < b := by
  have h1 := Int.tmod_lt_of_pos n h
  have h2 := Int.lt_tmod_of_pos n h
  refine ⟨?_, h2, h1⟩
  rw [Int.tmod_eq_emod_of_nonneg (by omega), Int.add_emod_right]
  rw [Int.tmod_def, Int.sub_eq_add_neg, ← Int.mul_neg, Int.add_mul_emod_self_left]
theorem ok25 : EntryOK Try.prog G0 e25 := cIok.entryP mixed ev_25 _ rfl _ rfl fun xs hf hp => by
  obtain ⟨l, hl, hF⟩ := ctx_P (l0 := cI.l)
  show ob_25.tt cI.l.F _ = true ∧ outsP e25.fn _ cI.l.F _ _ _ _
  rw [hl]
  obtain ⟨n, b, rfl⟩ := two_of (fits_length hf)
  obtain ⟨h0, h1, _⟩ := hf
  simp only [norm_i] at h0 h1
  obtain ⟨p1, p2⟩ := hp
  simp only [ewA, ewL, preC, binI, dvI, shI, cmpB, env, bi, List.headD, List.tail, List.map, Nat.reduceAdd] at p1 p2
  obtain ⟨m1, m2, m3⟩ := mod_mod (n := n) p1
  have w1 : IntKind.i64.wrap (n.tmod b) = n.tmod b := i64w (by omega) (by omega)
  have w2 : IntKind.i64.wrap (n.tmod b + b) = n.tmod b + b := i64w (by omega) (by omega)
  have hb : (b != 0) = true := by simp; omega
  have w0 : IntKind.i64.wrap 0 = 0 := i64w (by decide) (by decide)
  refine ⟨?_, ?_, trivial⟩
  · simp only [ob_25, ewA, ewL, preC, binI, dvI, shI, cmpB, env, bi, List.headD, List.tail, List.map, Nat.reduceAdd, h0, h1, w0, hb]
  · simp only [es_25, e25, ewA, ewL, preC, binI, dvI, shI, cmpB, env, bi, List.headD, List.tail, List.map, Nat.reduceAdd, h0, h1, w1, w2, m1]

theorem u8_rng {b : Int} (h : IntKind.u8.wrap b = b) : 0 ≤ b ∧ b < 256 := by
  have e : IntKind.u8.wrap b = b % 256 := rfl
  rw [e] at h
  omega
theorem kx (q : Int) (h1 : 0 ≤ q) (h2 : q < 4) : IntKind.i64.wrap (1 * 2 ^ min (if 8 * q < 9 then 9 else 8 * q).toNat IntKind.i64.bits) = (if q ≤ 1 then 512 else if q = 2 then 65536 else 16777216) ∧ 0 ≤ (if 8 * q < 9 then 9 else 8 * q) := by
  have : q = 0 ∨ q = 1 ∨ q = 2 ∨ q = 3 := by omega
  rcases this with e | e | e | e <;> subst e <;> decide
theorem cKok : cK.OK Try.prog G0 := (Ctx.OK.nil.addF ok25 rfl).addF ok13 rfl
theorem nums_ok (b s n c : Int) (hs : 0 ≤ s) : newW (exF b - n % 300) (1 + c % 600) ((1 + c % 600 + 255) / 256 + s % 3) ∧ 213 ≤ exF b - n % 300 ∧ exF b - n % 300 ≤ 16777216 ∧ 1 + c % 600 ≤ 600 ∧ (1 + c % 600 + 255) / 256 + s % 3 ≤ 5 := by
  have hx : 512 ≤ exF b ∧ exF b ≤ 16777216 := by
    unfold exF
    repeat' split
    all_goals omega
  unfold newW
  omega

theorem g13_0 {a c b : Int} : e13.fn 0 [a, c, b] = cd S0 := rfl
theorem g13_1 {a c b : Int} : e13.fn 1 [a, c, b] = a := rfl
theorem g13_2 {a c b : Int} : e13.fn 2 [a, c, b] = b := rfl
theorem g13_3 {a c b : Int} : e13.fn 3 [a, c, b] = 0 := rfl
theorem g13_4 {a c b : Int} : e13.fn 4 [a, c, b] = 0 := rfl
theorem g13_5 {a c b : Int} : e13.fn 5 [a, c, b] = cd (Tn c) := rfl

theorem ok23 : EntryOK Try.prog G0 e23 := cKok.entryP mixed ev_23 _ rfl _ rfl fun xs hf hp => by
  obtain ⟨l, hl, hF⟩ := ctx_P (l0 := cK.l)
  show ob_23.tt cK.l.F _ = true ∧ outsP e23.fn _ cK.l.F _ _ _ _
  rw [hl]
  have F13 := FC (k := 13) rfl (hF e13 (by rfl) (by decide))
  have F25 := FC (k := 25) rfl (hF e25 (by rfl) (by decide))
  have hSS := And.intro F13 F25
  obtain ⟨b, s, n, c, rfl⟩ : ∃ b s n c, xs = [b, s, n, c] := by
    have := fits_length hf
    match xs, this with
    | [b, s, n, c], _ => exact ⟨_, _, _, _, rfl⟩
  obtain ⟨h0, h1, h2, h3, _⟩ := hf
  simp only [norm_i] at h0 h1 h2 h3
  have r0 := u8_rng h0
  have r1 := u8_rng h1
  have t0 : b.tmod 4 = b % 4 := Int.tmod_eq_emod_of_nonneg r0.1
  have t1 : s.tmod 3 = s % 3 := Int.tmod_eq_emod_of_nonneg r1.1
  obtain ⟨k1, k2⟩ := kx (b % 4) (by omega) (by omega)
  have kE : (if b % 4 ≤ 1 then 512 else if b % 4 = 2 then 65536 else 16777216) = exF b := rfl
  rw [kE] at k1
  obtain ⟨g1, g2, g3, g4, g5⟩ := nums_ok b s n c r1.1
  have f1 : e25.fn 0 [n, 300] = n % 300 := rfl
  have f2 : e25.fn 0 [c, 600] = c % 600 := rfl
  have y1 : e25.pre [n, 300] := ⟨by show (0 : Int) < 300; decide, by show (300 : Int) ≤ 4611686018427387904; decide⟩
  have y2 : e25.pre [c, 600] := ⟨by show (0 : Int) < 600; decide, by show (600 : Int) ≤ 4611686018427387904; decide⟩
  have w1 : IntKind.i64.wrap (n % 300) = n % 300 := i64w (by omega) (by omega)
  have w2 : IntKind.i64.wrap (c % 600) = c % 600 := i64w (by omega) (by omega)
  have w3 : IntKind.i64.wrap (1 + c % 600) = 1 + c % 600 := i64w (by omega) (by omega)
  have w4 : IntKind.i64.wrap (1 + c % 600 + 255) = 1 + c % 600 + 255 := i64w (by omega) (by omega)
  have w5 : (1 + c % 600 + 255).tdiv 256 = (1 + c % 600 + 255) / 256 := Int.tdiv_eq_ediv_of_nonneg (by omega)
  have w6 : IntKind.i64.wrap ((1 + c % 600 + 255) / 256) = (1 + c % 600 + 255) / 256 := i64w (by omega) (by omega)
  have w7 : IntKind.i64.wrap (s % 3) = s % 3 := i64w (by omega) (by omega)
  have w8 : IntKind.i64.wrap ((1 + c % 600 + 255) / 256 + s % 3) = (1 + c % 600 + 255) / 256 + s % 3 := i64w (by omega) (by omega)
  have w9 : IntKind.i64.wrap (exF b - n % 300) = exF b - n % 300 := i64w (by omega) (by omega)
  have y3 : e13.pre [exF b - n % 300, 1 + c % 600, (1 + c % 600 + 255) / 256 + s % 3] := g1
  have e0 : nowF [b, s, n, c] = exF b - n % 300 := rfl
  have e1 : capF [b, s, n, c] = 1 + c % 600 := rfl
  have e2 : budF [b, s, n, c] = (1 + c % 600 + 255) / 256 + s % 3 := rfl
  refine ⟨?_, ?_, ?_, ?_, ?_, ?_, ?_, ?_, ?_, trivial⟩
  all_goals simp (disch := omega) only [ob_23, q_23_0, q_23_1, q_23_2, q_23_3, q_23_4, es_23, e23, fn23, e0, e1, e2, ewA, ewL, preC, binI, dvI, shI, cmpB, env, bi, List.headD, List.tail, List.map, Nat.reduceAdd, ewB, ewM, if_true, if_false, implies_true, forall_const, ne_eq, reduceCtorEq, Int.reduceEq, Int.reduceLT, Int.reduceLE, Int.reduceToNat, Int.reduceAdd, Int.reduceSub, Int.reduceMul, Int.reduceNeg, Int.reduceBEq, Nat.reduceLT, Nat.reduceEqDiff, hSS, h0, h1, h2, h3, t0, t1, k1, k2, f1, f2, y1, y2, w1, w2, w3, w4, w5, w6, w7, w8, w9, y3, g13_0, g13_1, g13_2, g13_3, g13_4, g13_5]

end
end Go.Proofs.Ytfhheeoejncfgaa.Ew
