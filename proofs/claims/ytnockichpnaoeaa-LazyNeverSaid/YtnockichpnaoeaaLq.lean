/- Layer 19: LazyNever. -/
import Derived.Test.YtnockichpnaoeaaLp
set_option linter.unusedVariables false
set_option linter.unusedSimpArgs false
namespace Go.Proofs.Ytnockichpnaoeaa.Ew
open Go Go.RowKit
noncomputable section
--P Try.prog G0

def pre24 (xs : List Int) : Prop := LVx xs (env xs 10) (fun _ => 0) (fun _ => 0) [] ∧ env xs 10 ≤ 300 ∧ env xs 1 < 1073741824 ∧ env xs 4 = 0 ∧ env xs 8 = 0 ∧ rowsOK actK (dc (env xs 11)) ∧ ((dc (env xs 11)).length : Int) ≤ 9223372036854775807
def post24 (xs ys : List Int) : Prop := (∃ d a B, LVx ys (env xs 10) d a B) ∧ env ys 7 = 0 ∧ env ys 8 ≤ env ys 10
def b24 : Ent := ⟨324, 24, [lzS, i64, acts], [wobL, lzO], [4], .tup [i64, .lt .b 1], z0, pre24⟩
def cPy : Ctx := ⟨[z15.nm], [(24, pOu, leOu.nm)]⟩

def a_z24_0 : List E := [(vX 0), (vI 1), (vI 2), (vI 3), (vI 4), (vX 5), (vI 6), (vI 7), (vI 8), (vX 9), (vI 10), (aX 0 5 [(vX 11), (lI 0), (.ite (.cmp .lss (lI 40) (aI 0 0 [(vX 11)])) (lI 40) (aI 0 0 [(vX 11)]))]), (aX 0 7 [(vI 10), (lI 0)]), (lI 0), (lI 0)]
def defs_z24 : List (Nat × E) := [(640058393601344, (aX 100009124 0 a_z24_0)),
  (640058393601345, (aI 100009124 1 a_z24_0)),
  (640058393601346, (aI 100009124 2 a_z24_0)),
  (640058393601347, (aI 100009124 3 a_z24_0)),
  (640058393601348, (aI 100009124 4 a_z24_0)),
  (640058393601349, (aX 100009124 5 a_z24_0)),
  (640058393601350, (aI 100009124 6 a_z24_0)),
  (640058393601351, (aI 100009124 7 a_z24_0)),
  (640058393601352, (aI 100009124 8 a_z24_0)),
  (640058393601353, (aX 100009124 9 a_z24_0)),
  (640058393601354, (aX 100009124 10 a_z24_0)),
  (640058393601355, (aI 100009124 11 a_z24_0)),
  (640002016001472, (aI 100000315 0 [(vX 640058393601344), (vI 640058393601345), (vI 640058393601346), (vI 640058393601347), (vI 640058393601348), (vX 640058393601349), (vI 640058393601350), (vI 640058393601351), (vI 640058393601352), (vX 640058393601353)]))]
def q_z24_0 : E := (.ite (.cmp .lss (lI 40) (aI 0 0 [(vX 11)])) (lI 40) (aI 0 0 [(vX 11)]))
def ob_z24 : E := (.and (.and (.and (.cmp .geq (vI 10) (lI 0)) (.cmp .leq (vI 10) (.lit .x 17592186044416))) (.and (.and (.cmp .leq (lI 0) q_z24_0) (.cmp .leq q_z24_0 (aI 0 0 [(vX 11)]))) (.and (.and (.and (.app .b 100009124 1000000 [(vX 0), (vI 1), (vI 2), (vI 3), (vI 4), (vX 5), (vI 6), (vI 7), (vI 8), (vX 9), (vI 10), (aX 0 5 [(vX 11), (lI 0), q_z24_0]), (aX 0 7 [(vI 10), (lI 0)]), (lI 0), (lI 0)]) (.cmp .eql (aI 0 0 [(vX 640058393601354)]) (aI 0 0 [(aX 0 7 [(vI 10), (lI 0)])]))) (dE defs_z24 0 12)) (.and (.app .b 100000315 1000000 [(vX 640058393601344), (vI 640058393601345), (vI 640058393601346), (vI 640058393601347), (vI 640058393601348), (vX 640058393601349), (vI 640058393601350), (vI 640058393601351), (vI 640058393601352), (vX 640058393601353)]) (dE defs_z24 12 1))))) (.cmp .eql (vI 640002016001472) (lI 0)))
def es_z24 : List E := [(vX 640058393601344), (vI 640058393601345), (vI 640058393601346), (vI 640058393601347), (vI 640058393601348), (vX 640058393601349), (vI 640058393601350), (vI 640058393601351), (vI 640058393601352), (vX 640058393601353), (vI 640058393601355)]
def z24 : Ent := b24.fw (fnR cPy.l.F b24.np ob_z24 es_z24 post24)
theorem ev_z24 : evE Try.prog G0 (tabOf cPy.fs) (ltOf cPy.ls) 40 10 z24 = some (ob_z24, es_z24) := by kernel_rfl

def pre8 (xs : List Int) : Prop := rowsOK actK (dc (env xs 3)) ∧ ((dc (env xs 3)).length : Int) ≤ 9223372036854775807
def b8 : Ent := ⟨308, 8, [numS, acts], [], [0], .lt .b 1, z0, pre8⟩
def c8 : Ctx := ⟨[z10.nm, z18.nm, z24.nm, z17.nm, z23.nm], []⟩

def a_z8_0 : List E := [(vI 0), (vI 1), (vI 2)]
def a_z8_1 : List E := [(vX 640002035200576), (vI 640002035200577), (vI 640002035200578), (vI 640002035200579), (vI 640002035200580), (vX 640002035200581), (vI 640002035200582), (vI 640002035200583), (vI 640002035200584), (vX 640002035200585), (vI 640002035200586), (vX 3)]
def a_z8_2 : List E := [(vX 640002073601088), (vI 640002073601089), (vI 640002073601090), (vI 640002073601091), (vI 640002073601092), (vX 640002073601093), (vI 640002073601094), (vI 640002073601095), (vI 640002073601096), (vX 640002073601097)]
def defs_z8 : List (Nat × E) := [(640002035200576, (aX 100000318 0 a_z8_0)),
  (640002035200577, (aI 100000318 1 a_z8_0)),
  (640002035200578, (aI 100000318 2 a_z8_0)),
  (640002035200579, (aI 100000318 3 a_z8_0)),
  (640002035200580, (aI 100000318 4 a_z8_0)),
  (640002035200581, (aX 100000318 5 a_z8_0)),
  (640002035200582, (aI 100000318 6 a_z8_0)),
  (640002035200583, (aI 100000318 7 a_z8_0)),
  (640002035200584, (aI 100000318 8 a_z8_0)),
  (640002035200585, (aX 100000318 9 a_z8_0)),
  (640002035200586, (aI 100000318 10 a_z8_0)),
  (640002035200587, (aI 100000318 11 a_z8_0)),
  (640002073601088, (aX 100000324 0 a_z8_1)),
  (640002073601089, (aI 100000324 1 a_z8_1)),
  (640002073601090, (aI 100000324 2 a_z8_1)),
  (640002073601091, (aI 100000324 3 a_z8_1)),
  (640002073601092, (aI 100000324 4 a_z8_1)),
  (640002073601093, (aX 100000324 5 a_z8_1)),
  (640002073601094, (aI 100000324 6 a_z8_1)),
  (640002073601095, (aI 100000324 7 a_z8_1)),
  (640002073601096, (aI 100000324 8 a_z8_1)),
  (640002073601097, (aX 100000324 9 a_z8_1)),
  (640002073601098, (aI 100000324 10 a_z8_1)),
  (640002028801600, (aI 100000317 0 a_z8_2)),
  (640002067201600, (aI 100000323 0 a_z8_2))]
def q_z8_0 : E := (.cmp .leq (vI 640002028801600) (vI 640002073601098))
def ob_z8 : E := (.and (.and (.app .b 100000310 1000000 []) (.and (.and (.app .b 100000318 1000000 [(vI 0), (vI 1), (vI 2)]) (dE defs_z8 0 12)) (.and (.and (.app .b 100000324 1000000 [(vX 640002035200576), (vI 640002035200577), (vI 640002035200578), (vI 640002035200579), (vI 640002035200580), (vX 640002035200581), (vI 640002035200582), (vI 640002035200583), (vI 640002035200584), (vX 640002035200585), (vI 640002035200586), (vX 3)]) (dE defs_z8 12 11)) (.and (.and (.app .b 100000317 1000000 [(vX 640002073601088), (vI 640002073601089), (vI 640002073601090), (vI 640002073601091), (vI 640002073601092), (vX 640002073601093), (vI 640002073601094), (vI 640002073601095), (vI 640002073601096), (vX 640002073601097)]) (dE defs_z8 23 1)) (.or (.not q_z8_0) (.and (.app .b 100000323 1000000 [(vX 640002073601088), (vI 640002073601089), (vI 640002073601090), (vI 640002073601091), (vI 640002073601092), (vX 640002073601093), (vI 640002073601094), (vI 640002073601095), (vI 640002073601096), (vX 640002073601097)]) (dE defs_z8 24 1))))))) (.and q_z8_0 (.cmp .eql (vI 640002067201600) (lI 0))))
def es_z8 : List E := []
def z8 : Ent := b8.fw (fnR c8.l.F b8.np ob_z8 es_z8 postT)
theorem ev_z8 : evE Try.prog G0 (tabOf c8.fs) (ltOf c8.ls) 40 10 z8 = some (ob_z8, es_z8) := by kernel_rfl

theorem PO.start {S now bu le mo T h ln vn D c A : Int} (hz : LZ S now bu le mo T h ln vn D c (fun _ => 0) (fun _ => 0) []) (p1 : c ≤ 300) (p2 : now < 1073741824) (p3 : mo = 0) (p4 : vn = 0) (p5 : rowsOK actK (dc A)) (p6 : ((dc A).length : Int) ≤ 40) :
    PO S now bu le mo T h ln vn D c A (cd (List.replicate c.toNat [0])) 0 0 (fun _ => 0) (fun _ => 0) [] := by
  have hct := hz.w.ct
  have htm := hz.w.tm
  have h0 : early c (fun _ => 0) (fun _ => 0) = 0 := by
    show ((cnt c.toNat (fun _ => decide ((0 : Int) < 0)) : Nat) : Int) = 0
    have := cnt_le2 (p1 := fun _ => decide ((0 : Int) < 0)) (p2 := fun j => decide (0 < z0D j)) (p := fun j => decide (0 < z0D j)) c.toNat fun j hj => by rw [decide_eq_false (show ¬ (0 : Int) < 0 by decide)]; simp
    rw [cnt_none] at this
    omega
  refine ⟨⟨hz, ?_, ?_, fun i hi => ?_, by omega⟩, p1, p5, p6, by omega, by omega, by omega, by omega, fun j _ => ⟨by show (0 : Int) ≤ now + 600; omega, fun hh => by omega⟩, fun hh => by omega⟩
  · rw [dc_cd]
    intro r hr
    rw [List.eq_of_mem_replicate hr]
    exact ⟨rfl, trivial⟩
  · rw [dc_cd, List.length_replicate]; omega
  · rw [dc_cd]
    unfold gC
    rw [show (List.replicate c.toNat [0] : RL).getD i [] = [0] by rw [List.getD_eq_getElem?_getD, List.getElem?_replicate, if_pos (by omega)]; rfl]; rfl
theorem cPyok : cPy.OK Try.prog G0 := by
  have h1 : Ctx.OK Try.prog G0 ⟨[z15.nm], []⟩ := Ctx.OK.nil.addF okz15.nm rfl
  exact h1.addL (CodeOK.nm okOu.1) rfl
set_option maxHeartbeats 1000000 in
theorem okz24 : EntryOK Try.prog G0 z24 ∧ PostOK z24 post24 := by
  refine cPyok.entryH mixed ev_z24 (by kernel_rfl) _ rfl fun xs hf hp => ?_
  obtain ⟨l, hl, hF⟩ := ctx_P (l0 := cPy.l)
  show ∃ ρ : Nat → Int, _ ∧ ob_z24.tt cPy.l.F ρ = true ∧ post24 xs (es_z24.map (E.den cPy.l.F ρ))
  rw [hl]
  have F315 := FC (k := 100000315) rfl (hF z15.nm (by rfl) (by decide))
  have F9124 := FC (k := 100009124) rfl (hF leOu.nm.ent (by rfl) (by decide))
  replace hf : fits [.x, (.i .i64), (.i .i64), (.i .i64), (.i .i64), .x, (.i .i64), (.i .i64), (.i .i64), .x, (.i .i64), .x] xs := hf
  obtain ⟨S, xs0, hx0, hS, hf0⟩ := fits_cons hf
  obtain ⟨now, xs1, hx1, hnow, hf1⟩ := fits_cons hf0
  obtain ⟨bu, xs2, hx2, hbu, hf2⟩ := fits_cons hf1
  obtain ⟨le, xs3, hx3, hle, hf3⟩ := fits_cons hf2
  obtain ⟨mo, xs4, hx4, hmo, hf4⟩ := fits_cons hf3
  obtain ⟨T, xs5, hx5, hT, hf5⟩ := fits_cons hf4
  obtain ⟨h, xs6, hx6, hh, hf6⟩ := fits_cons hf5
  obtain ⟨ln, xs7, hx7, hln, hf7⟩ := fits_cons hf6
  obtain ⟨vn, xs8, hx8, hvn, hf8⟩ := fits_cons hf7
  obtain ⟨D, xs9, hx9, hD, hf9⟩ := fits_cons hf8
  obtain ⟨c, xs10, hx10, hc, hf10⟩ := fits_cons hf9
  obtain ⟨A, xs11, hx11, hA, hf11⟩ := fits_cons hf10
  have hxn := fits_nil hf11
  subst hxn hx11 hx10 hx9 hx8 hx7 hx6 hx5 hx4 hx3 hx2 hx1 hx0
  simp only [norm_i] at hnow hbu hle hmo hh hln hvn hc
  obtain ⟨ρ, hρ, hd⟩ := solve (F := l.F) 12 defs_z24 (by kernel_rfl) [S, now, bu, le, mo, T, h, ln, vn, D, c, A]
  have hDf := dE_tt (by kernel_rfl) hd
  refine ⟨ρ, hρ, ?_⟩
  have r0 : ρ 0 = S := hρ 0 (by decide)
  have r1 : ρ 1 = now := hρ 1 (by decide)
  have r2 : ρ 2 = bu := hρ 2 (by decide)
  have r3 : ρ 3 = le := hρ 3 (by decide)
  have r4 : ρ 4 = mo := hρ 4 (by decide)
  have r5 : ρ 5 = T := hρ 5 (by decide)
  have r6 : ρ 6 = h := hρ 6 (by decide)
  have r7 : ρ 7 = ln := hρ 7 (by decide)
  have r8 : ρ 8 = vn := hρ 8 (by decide)
  have r9 : ρ 9 = D := hρ 9 (by decide)
  have r10 : ρ 10 = c := hρ 10 (by decide)
  have r11 : ρ 11 = A := hρ 11 (by decide)
  obtain ⟨v1, hv1, hd1, hn1⟩ := nmd hd 0 rfl
  obtain ⟨v2, hv2, hd2, hn2⟩ := nmd hd 1 rfl
  obtain ⟨v3, hv3, hd3, hn3⟩ := nmd hd 2 rfl
  obtain ⟨v4, hv4, hd4, hn4⟩ := nmd hd 3 rfl
  obtain ⟨v5, hv5, hd5, hn5⟩ := nmd hd 4 rfl
  obtain ⟨v6, hv6, hd6, hn6⟩ := nmd hd 5 rfl
  obtain ⟨v7, hv7, hd7, hn7⟩ := nmd hd 6 rfl
  obtain ⟨v8, hv8, hd8, hn8⟩ := nmd hd 7 rfl
  obtain ⟨v9, hv9, hd9, hn9⟩ := nmd hd 8 rfl
  obtain ⟨v10, hv10, hd10, hn10⟩ := nmd hd 9 rfl
  obtain ⟨v11, hv11, hd11, hn11⟩ := nmd hd 10 rfl
  obtain ⟨v12, hv12, hd12, hn12⟩ := nmd hd 11 rfl
  obtain ⟨v13, hv13, hd13, hn13⟩ := nmd hd 12 rfl
  simp only [norm_i] at hn2 hn3 hn4 hn5 hn7 hn8 hn9 hn12 hn13
  simp (disch := omega) only [norm_i, a_z24_0, F315, F9124, Ent.nm_fn, r0, r1, hnow, r2, hbu, r3, hle, r4, hmo, r5, r6, hh, r7, hln, r8, hvn, r9, r10, hc, r11, hv1, hv2, hn2, hv3, hn3, hv4, hn4, hv5, hn5, hv6, hv7, hn7, hv8, hn8, hv9, hn9, hv10, hv11, hv12, hn12, hv13, hn13, ewA, ewL, preC, binI, dvI, shI, cmpB, env, bi, List.headD, List.tail, List.map, Nat.reduceAdd, ewR, ewB, ewM, if_true, if_false, implies_true, forall_const, ne_eq, reduceCtorEq, Int.reduceEq, Int.reduceLT, Int.reduceLE, Int.reduceToNat, Int.reduceAdd, Int.reduceSub, Int.reduceMul, Int.reduceNeg, Int.reduceBEq, Nat.reduceLT, Nat.reduceEqDiff] at hd1 hd2 hd3 hd4 hd5 hd6 hd7 hd8 hd9 hd10 hd11 hd12 hd13
  have hSS := And.intro (And.intro (And.intro (And.intro (And.intro F315 F9124) (And.intro r0 (And.intro r1 hnow))) (And.intro (And.intro r2 (And.intro hbu r3)) (And.intro hle (And.intro r4 hmo)))) (And.intro (And.intro (And.intro r5 r6) (And.intro hh (And.intro r7 hln))) (And.intro (And.intro r8 (And.intro hvn r9)) (And.intro r10 (And.intro hc r11))))) (And.intro (And.intro (And.intro (And.intro hv1 hv2) (And.intro hn2 (And.intro hv3 hn3))) (And.intro (And.intro hv4 (And.intro hn4 hv5)) (And.intro hn5 (And.intro hv6 hv7)))) (And.intro (And.intro (And.intro hn7 (And.intro hv8 hn8)) (And.intro hv9 (And.intro hn9 hv10))) (And.intro (And.intro hv11 (And.intro hv12 hn12)) (And.intro hv13 (And.intro hn13 hDf)))))
  obtain ⟨hz, p1, p2, p3, p4, p5, p6⟩ := hp
  replace hz : LZ S now bu le mo T h ln vn D c (fun _ => 0) (fun _ => 0) [] := hz
  replace p1 : c ≤ 300 := p1
  replace p2 : now < 1073741824 := p2
  replace p3 : mo = 0 := p3
  replace p4 : vn = 0 := p4
  replace p5 : rowsOK actK (dc A) := p5
  replace p6 : ((dc A).length : Int) ≤ 9223372036854775807 := p6
  have hct := hz.w.ct
  have wA : IntKind.i64.wrap (((dc A).length : Nat) : Int) = (((dc A).length : Nat) : Int) := i64w (by omega) (by omega)
  obtain ⟨t, ht⟩ : ∃ t : Nat, (if 40 < (((dc A).length : Nat) : Int) then 40 else (((dc A).length : Nat) : Int)).toNat = t := ⟨_, rfl⟩
  have ht2 : t ≤ 40 ∧ t ≤ (dc A).length := by rw [← ht]; split <;> omega
  obtain ⟨A', hA⟩ : ∃ A', A' = cd (List.take t (dc A)) := ⟨_, rfl⟩
  have dA : dc A' = List.take t (dc A) := by rw [hA]; exact dc_cd _
  have lA : (dc A').length = t := by rw [dA, List.length_take]; omega
  obtain ⟨E0, hE⟩ : ∃ E0, E0 = cd (List.replicate c.toNat [0]) := ⟨_, rfl⟩
  have po := PO.start (A := A') hz p1 p2 p3 p4 (by rw [dA]; exact fun r hr => p5 r (List.mem_of_mem_take hr)) (by omega)
  rw [← hE] at po
  simp only [wA, ht, ← hA, ← hE] at hd1 hd2 hd3 hd4 hd5 hd6 hd7 hd8 hd9 hd10 hd11 hd12
  obtain ⟨w1, w2, w3, w4, w5, w6, w7⟩ := hz.ws
  have yp : leOu.ent.pre [S, now, bu, le, mo, T, h, ln, vn, D, c, A', E0, 0, 0] := ⟨_, _, _, po⟩
  obtain ⟨⟨d, a, B, q1⟩, q2, q3, q4⟩ := (PostOK.use (ks := [.x, (.i .i64), (.i .i64), (.i .i64), (.i .i64), .x, (.i .i64), (.i .i64), (.i .i64), .x, (.i .i64), .x, .x, (.i .i64), (.i .i64)]) (os := [.x, (.i .i64), (.i .i64), (.i .i64), (.i .i64), .x, (.i .i64), (.i .i64), (.i .i64), .x, .x, (.i .i64)]) (vs := [v1, v2, v3, v4, v5, v6, v7, v8, v9, v10, v11, v12]) okOu.2 rfl rfl ⟨hd1, hd2, hd3, hd4, hd5, hd6, hd7, hd8, hd9, hd10, hd11, hd12, trivial⟩) ⟨rfl, w1, w2, w3, w4, rfl, w5, w6, w7, rfl, hc, rfl, rfl, rfl, rfl, trivial⟩ yp
  replace q1 : LZ v1 v2 v3 v4 v5 v6 v7 v8 v9 v10 c d a B := q1
  replace q2 : ((dc v11).length : Int) = c := q2
  replace q3 : v8 = 0 := q3
  replace q4 : v9 ≤ v12 := q4
  have l11 : (dc v11).length = (dc E0).length := by
    have := po.p.lE
    omega
  have wE : IntKind.i64.wrap (((dc E0).length : Nat) : Int) = (((dc E0).length : Nat) : Int) := by
    have := po.p.lE
    exact i64w (by omega) (by omega)
  have z13' : v13 = 0 := (q1.lenV hd13).trans q3
  have y15 : z15.pre [v1, v2, v3, v4, v5, v6, v7, v8, v9, v10] := trivial
  have hmin : ((if 40 < (((dc A).length : Nat) : Int) then 40 else (((dc A).length : Nat) : Int)) : Int) = (t : Int) := by rw [← ht]; split <;> omega
  refine ⟨?_, ?_⟩
  · simp (disch := omega) only [ob_z24, q_z24_0, ewA, ewL, preC, binI, dvI, shI, cmpB, env, bi, List.headD, List.tail, List.map, Nat.reduceAdd, ewR, ewB, ewM, if_true, if_false, implies_true, forall_const, ne_eq, reduceCtorEq, Int.reduceEq, Int.reduceLT, Int.reduceLE, Int.reduceToNat, Int.reduceAdd, Int.reduceSub, Int.reduceMul, Int.reduceNeg, Int.reduceBEq, Nat.reduceLT, Nat.reduceEqDiff, hSS, wA, ht, ← hA, ← hE, yp, y15, z13', l11, wE]
    refine ⟨⟨by omega, by omega⟩, ?_, ?_⟩ <;> split <;> omega
  · simp (disch := omega) only [es_z24, q_z24_0, ewA, ewL, preC, binI, dvI, shI, cmpB, env, bi, List.headD, List.tail, List.map, Nat.reduceAdd, ewR, ewB, ewM, if_true, if_false, implies_true, forall_const, ne_eq, reduceCtorEq, Int.reduceEq, Int.reduceLT, Int.reduceLE, Int.reduceToNat, Int.reduceAdd, Int.reduceSub, Int.reduceMul, Int.reduceNeg, Int.reduceBEq, Nat.reduceLT, Nat.reduceEqDiff, hSS]
    exact ⟨⟨d, a, B, q1⟩, q3, q4⟩

theorem c8ok : c8.OK Try.prog G0 := by
  have h1 : Ctx.OK Try.prog G0 ⟨[z10.nm, z18.nm, z24.nm, z17.nm, z23.nm], []⟩ := ((((Ctx.OK.nil.addF okz23.nm rfl).addF okz17.nm rfl).addF okz24.1.nm rfl).addF okz18.1.nm rfl).addF okz10.1.nm rfl
  exact h1
theorem nv8 {n0 c0 k0 A v1 v2 v3 v4 v5 v6 v7 v8 v9 v10 v11 v12 v13 v14 v15 v16 v17 v18 v19 v20 v21 v22 v23 v24 v25 : Int} (wn : IntKind.i64.wrap n0 = n0) (wc : IntKind.i64.wrap c0 = c0) (wk : IntKind.i64.wrap k0 = k0) (hA : pre8 [n0, c0, k0, A])
    (o1 : isOut z18.fn [n0, c0, k0] 0 [.x, .i .i64, .i .i64, .i .i64, .i .i64, .x, .i .i64, .i .i64, .i .i64, .x, .i .i64, .i .i64] [v1, v2, v3, v4, v5, v6, v7, v8, v9, v10, v11, v12])
    (o2 : isOut z24.fn [v1, v2, v3, v4, v5, v6, v7, v8, v9, v10, v11, A] 0 [.x, .i .i64, .i .i64, .i .i64, .i .i64, .x, .i .i64, .i .i64, .i .i64, .x, .i .i64] [v13, v14, v15, v16, v17, v18, v19, v20, v21, v22, v23])
    (o3 : v24 = IntKind.i64.wrap (z17.fn 0 [v13, v14, v15, v16, v17, v18, v19, v20, v21, v22])) (o4 : v25 = IntKind.i64.wrap (z23.fn 0 [v13, v14, v15, v16, v17, v18, v19, v20, v21, v22])) :
    z24.pre [v1, v2, v3, v4, v5, v6, v7, v8, v9, v10, v11, A] ∧ v24 ≤ v23 ∧ v25 = 0 ∧ z23.pre [v13, v14, v15, v16, v17, v18, v19, v20, v21, v22] := by
  obtain ⟨z0, n2, n3, n5, n7, n9, n11, n12⟩ := PostOK.use (ks := [.i .i64, .i .i64, .i .i64]) okz18.2 rfl rfl o1 ⟨wn, wc, wk, trivial⟩ trivial
  replace z0 : LZ v1 v2 v3 v4 v5 v6 v7 v8 v9 v10 (capF [n0, c0, k0]) (fun _ => 0) (fun _ => 0) [] := z0
  replace n11 : v11 = capF [n0, c0, k0] := n11
  replace n2 : v2 = nowF [n0, c0, k0] := n2
  replace n5 : v5 = 0 := n5
  replace n9 : v9 = 0 := n9
  rw [← n11] at z0
  have e11 : v11 = 1 + c0 % 300 := n11
  have e2 : v2 = n0 % 1073741824 := n2
  obtain ⟨w1, w2, w3, w4, w5, w6, w7⟩ := z0.ws
  have y : z24.pre [v1, v2, v3, v4, v5, v6, v7, v8, v9, v10, v11, A] := ⟨z0, by show v11 ≤ 300; omega, by show v2 < 1073741824; omega, n5, n9, hA.1, hA.2⟩
  obtain ⟨⟨d, a, B, q1⟩, q3, q4⟩ := PostOK.use (ks := [.x, .i .i64, .i .i64, .i .i64, .i .i64, .x, .i .i64, .i .i64, .i .i64, .x, .i .i64, .x]) okz24.2 rfl rfl o2 ⟨rfl, w1, w2, w3, w4, rfl, w5, w6, w7, rfl, i64w (by omega) (by omega), rfl, trivial⟩ y
  replace q1 : LZ v13 v14 v15 v16 v17 v18 v19 v20 v21 v22 v11 d a B := q1
  replace q3 : v20 = 0 := q3
  replace q4 : v21 ≤ v23 := q4
  have hB : B = [] := by
    have hl := q1.ln
    have hle := q1.w.len
    cases B with
    | nil => rfl
    | cons r B =>
      exfalso
      have hr := (q1.w.mem r).1 (by simp)
      have h1 : 1 ≤ cnt v11.toNat (fun j => decide (0 < a j)) := cnt_ge (Q := [r]) (by simp) fun j hj => by
        rw [List.mem_singleton] at hj
        subst hj
        exact ⟨by omega, decide_eq_true hr.2.1⟩
      unfold cntP at hle
      omega
  have e24 := q1.vain o3
  have e25 := q1.lag o4
  rw [hB] at e25
  exact ⟨y, by omega, e25, q1.p23⟩
set_option maxHeartbeats 1000000 in
theorem okz8 : EntryOK Try.prog G0 z8 ∧ PostOK z8 postT := by
  refine c8ok.entryH mixed ev_z8 (by kernel_rfl) _ rfl fun xs hf hp => ?_
  obtain ⟨l, hl, hF⟩ := ctx_P (l0 := c8.l)
  show ∃ ρ : Nat → Int, _ ∧ ob_z8.tt c8.l.F ρ = true ∧ postT xs (es_z8.map (E.den c8.l.F ρ))
  rw [hl]
  have F310 := FC (k := 100000310) rfl (hF z10.nm (by rfl) (by decide))
  have F317 := FC (k := 100000317) rfl (hF z17.nm (by rfl) (by decide))
  have F318 := FC (k := 100000318) rfl (hF z18.nm (by rfl) (by decide))
  have F323 := FC (k := 100000323) rfl (hF z23.nm (by rfl) (by decide))
  have F324 := FC (k := 100000324) rfl (hF z24.nm (by rfl) (by decide))
  replace hf : fits [(.i .i64), (.i .i64), (.i .i64), .x] xs := hf
  obtain ⟨n0, xs0, hx0, hn0, hf0⟩ := fits_cons hf
  obtain ⟨c0, xs1, hx1, hc0, hf1⟩ := fits_cons hf0
  obtain ⟨k0, xs2, hx2, hk0, hf2⟩ := fits_cons hf1
  obtain ⟨A, xs3, hx3, hA, hf3⟩ := fits_cons hf2
  have hxn := fits_nil hf3
  subst hxn hx3 hx2 hx1 hx0
  simp only [norm_i] at hn0 hc0 hk0
  obtain ⟨ρ, hρ, hd⟩ := solve (F := l.F) 4 defs_z8 (by kernel_rfl) [n0, c0, k0, A]
  have hDf := dE_tt (by kernel_rfl) hd
  refine ⟨ρ, hρ, ?_⟩
  have r0 : ρ 0 = n0 := hρ 0 (by decide)
  have r1 : ρ 1 = c0 := hρ 1 (by decide)
  have r2 : ρ 2 = k0 := hρ 2 (by decide)
  have r3 : ρ 3 = A := hρ 3 (by decide)
  obtain ⟨v1, hv1, hd1, hn1⟩ := nmd hd 0 rfl
  obtain ⟨v2, hv2, hd2, hn2⟩ := nmd hd 1 rfl
  obtain ⟨v3, hv3, hd3, hn3⟩ := nmd hd 2 rfl
  obtain ⟨v4, hv4, hd4, hn4⟩ := nmd hd 3 rfl
  obtain ⟨v5, hv5, hd5, hn5⟩ := nmd hd 4 rfl
  obtain ⟨v6, hv6, hd6, hn6⟩ := nmd hd 5 rfl
  obtain ⟨v7, hv7, hd7, hn7⟩ := nmd hd 6 rfl
  obtain ⟨v8, hv8, hd8, hn8⟩ := nmd hd 7 rfl
  obtain ⟨v9, hv9, hd9, hn9⟩ := nmd hd 8 rfl
  obtain ⟨v10, hv10, hd10, hn10⟩ := nmd hd 9 rfl
  obtain ⟨v11, hv11, hd11, hn11⟩ := nmd hd 10 rfl
  obtain ⟨v12, hv12, hd12, hn12⟩ := nmd hd 11 rfl
  obtain ⟨v13, hv13, hd13, hn13⟩ := nmd hd 12 rfl
  obtain ⟨v14, hv14, hd14, hn14⟩ := nmd hd 13 rfl
  obtain ⟨v15, hv15, hd15, hn15⟩ := nmd hd 14 rfl
  obtain ⟨v16, hv16, hd16, hn16⟩ := nmd hd 15 rfl
  obtain ⟨v17, hv17, hd17, hn17⟩ := nmd hd 16 rfl
  obtain ⟨v18, hv18, hd18, hn18⟩ := nmd hd 17 rfl
  obtain ⟨v19, hv19, hd19, hn19⟩ := nmd hd 18 rfl
  obtain ⟨v20, hv20, hd20, hn20⟩ := nmd hd 19 rfl
  obtain ⟨v21, hv21, hd21, hn21⟩ := nmd hd 20 rfl
  obtain ⟨v22, hv22, hd22, hn22⟩ := nmd hd 21 rfl
  obtain ⟨v23, hv23, hd23, hn23⟩ := nmd hd 22 rfl
  obtain ⟨v24, hv24, hd24, hn24⟩ := nmd hd 23 rfl
  obtain ⟨v25, hv25, hd25, hn25⟩ := nmd hd 24 rfl
  simp only [norm_i] at hn2 hn3 hn4 hn5 hn7 hn8 hn9 hn11 hn12 hn14 hn15 hn16 hn17 hn19 hn20 hn21 hn23 hn24 hn25
  simp (disch := omega) only [norm_i, a_z8_0, a_z8_1, a_z8_2, F317, F318, F323, F324, Ent.nm_fn, r0, hn0, r1, hc0, r2, hk0, r3, hv1, hv2, hn2, hv3, hn3, hv4, hn4, hv5, hn5, hv6, hv7, hn7, hv8, hn8, hv9, hn9, hv10, hv11, hn11, hv12, hn12, hv13, hv14, hn14, hv15, hn15, hv16, hn16, hv17, hn17, hv18, hv19, hn19, hv20, hn20, hv21, hn21, hv22, hv23, hn23, hv24, hn24, hv25, hn25, ewA, ewL, preC, binI, dvI, shI, cmpB, env, bi, List.headD, List.tail, List.map, Nat.reduceAdd, ewR, ewB, ewM, if_true, if_false, implies_true, forall_const, ne_eq, reduceCtorEq, Int.reduceEq, Int.reduceLT, Int.reduceLE, Int.reduceToNat, Int.reduceAdd, Int.reduceSub, Int.reduceMul, Int.reduceNeg, Int.reduceBEq, Nat.reduceLT, Nat.reduceEqDiff] at hd1 hd2 hd3 hd4 hd5 hd6 hd7 hd8 hd9 hd10 hd11 hd12 hd13 hd14 hd15 hd16 hd17 hd18 hd19 hd20 hd21 hd22 hd23 hd24 hd25
  have hSS := And.intro (And.intro (And.intro (And.intro (And.intro F310 (And.intro F317 F318)) (And.intro (And.intro F323 F324) (And.intro r0 hn0))) (And.intro (And.intro r1 (And.intro hc0 r2)) (And.intro (And.intro hk0 r3) (And.intro hv1 hv2)))) (And.intro (And.intro (And.intro hn2 (And.intro hv3 hn3)) (And.intro (And.intro hv4 hn4) (And.intro hv5 hn5))) (And.intro (And.intro hv6 (And.intro hv7 hn7)) (And.intro (And.intro hv8 hn8) (And.intro hv9 hn9))))) (And.intro (And.intro (And.intro (And.intro hv10 (And.intro hv11 hn11)) (And.intro (And.intro hv12 hn12) (And.intro hv13 hv14))) (And.intro (And.intro hn14 (And.intro hv15 hn15)) (And.intro (And.intro hv16 hn16) (And.intro hv17 hn17)))) (And.intro (And.intro (And.intro hv18 (And.intro hv19 hn19)) (And.intro (And.intro hv20 hn20) (And.intro hv21 hn21))) (And.intro (And.intro (And.intro hv22 hv23) (And.intro hn23 hv24)) (And.intro (And.intro hn24 hv25) (And.intro hn25 hDf)))))
  obtain ⟨y24, e24, e25, y23⟩ := nv8 hn0 hc0 hk0 hp ⟨hd1, hd2, hd3, hd4, hd5, hd6, hd7, hd8, hd9, hd10, hd11, hd12, trivial⟩ ⟨hd13, hd14, hd15, hd16, hd17, hd18, hd19, hd20, hd21, hd22, hd23, trivial⟩ hd24 hd25
  have y10 : z10.pre [] := trivial
  have y18 : z18.pre [n0, c0, k0] := trivial
  have y17 : z17.pre [v13, v14, v15, v16, v17, v18, v19, v20, v21, v22] := trivial
  refine ⟨?_, trivial⟩
  simp only [ob_z8, q_z8_0, ewA, ewL, preC, binI, dvI, shI, cmpB, env, bi, List.headD, List.tail, List.map, Nat.reduceAdd, ewR, ewB, ewM, if_true, if_false, implies_true, forall_const, ne_eq, reduceCtorEq, Int.reduceEq, Int.reduceLT, Int.reduceLE, Int.reduceToNat, Int.reduceAdd, Int.reduceSub, Int.reduceMul, Int.reduceNeg, Int.reduceBEq, Nat.reduceLT, Nat.reduceEqDiff, hSS, y10, y18, y24, y17, y23, e24, e25]

end
end Go.Proofs.Ytnockichpnaoeaa.Ew
