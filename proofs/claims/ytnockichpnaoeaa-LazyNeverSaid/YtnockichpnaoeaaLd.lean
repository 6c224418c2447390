/- Layer 19: remainders, an object of numbers, the examples. -/
import Derived.Test.YtnockichpnaoeaaLc
set_option linter.unusedVariables false
set_option linter.unusedSimpArgs false
namespace Go.Proofs.Ytnockichpnaoeaa.Ew
open Go Go.RowKit
noncomputable section
--P Try.prog G0

def e25 : Ent := ⟨25, 11, [i64, i64], [], [], i64, fun _ xs => env xs 0 % env xs 1, fun xs => 0 < env xs 1 ∧ env xs 1 ≤ 4611686018427387904⟩
def numS : Sh := .agg [i64, i64, i64]
def capF (xs : List Int) : Int := 1 + env xs 1 % 300
def nowF (xs : List Int) : Int := env xs 0 % 1073741824
def hdF (xs : List Int) : Int := 1 + env xs 2 % capF xs
/-- A new object of numbers, its capacity and its time. -/
def post18 (xs ys : List Int) : Prop := LVx ys (capF xs) (fun _ => 0) (fun _ => 0) [] ∧ env ys 1 = nowF xs ∧ env ys 2 = (capF xs + 255) / 256 ∧ env ys 4 = 0 ∧ env ys 6 = hdF xs ∧ env ys 8 = 0 ∧ env ys 10 = capF xs ∧ env ys 11 = nowF xs
def b18 : Ent := ⟨318, 18, [numS, .lt .b 0], [], [], .tup [lzS, i64, i64], z0, T0⟩
def cZ6 : Ctx := ⟨[e25, z12], []⟩
def cZ6n : Ctx := cZ6.nm
def postT (xs ys : List Int) : Prop := True

def ob_25 : E := (.cmp .neq (vI 1) (lI 0))
def es_25 : List E := [(aI 0 21 [(.bin .add .i64 (aI 0 21 [(vI 0), (vI 1)]) (vI 1)), (vI 1)])]
theorem ev_25 : evE Try.prog G0 (tabOf cI.fs) (ltOf cI.ls) 40 10 e25 = some (ob_25, es_25) := by kernel_rfl

def a_z18_0 : List E := [(vI 640000160001536), (.bin .add .i64 (lI 1) (vI 640000160003072)), (.dv .quo .i64 (.bin .add .i64 (.bin .add .i64 (lI 1) (vI 640000160003072)) (lI 255)) 256), (.bin .add .i64 (lI 1) (vI 640000160005120))]
def defs_z18 : List (Nat × E) := [(640000160001536, (aI 100000025 0 [(vI 0), (lI 1073741824)])),
  (640000160003072, (aI 100000025 0 [(vI 1), (lI 300)])),
  (640000160005120, (aI 100000025 0 [(vI 2), (.bin .add .i64 (lI 1) (vI 640000160003072))])),
  (640001996805120, (aX 100000312 0 a_z18_0)),
  (640001996805121, (aI 100000312 1 a_z18_0)),
  (640001996805122, (aI 100000312 2 a_z18_0)),
  (640001996805123, (aI 100000312 3 a_z18_0)),
  (640001996805124, (aI 100000312 4 a_z18_0)),
  (640001996805125, (aX 100000312 5 a_z18_0)),
  (640001996805126, (aI 100000312 6 a_z18_0)),
  (640001996805127, (aI 100000312 7 a_z18_0)),
  (640001996805128, (aI 100000312 8 a_z18_0)),
  (640001996805129, (aX 100000312 9 a_z18_0))]
def ob_z18 : E := (.and (.and (.and (.app .b 100000025 1000000 [(vI 0), (lI 1073741824)]) (dE defs_z18 0 1)) (.and (.app .b 100000025 1000000 [(vI 1), (lI 300)]) (dE defs_z18 1 1))) (.and (.and (.app .b 100000025 1000000 [(vI 2), (.bin .add .i64 (lI 1) (vI 640000160003072))]) (dE defs_z18 2 1)) (.and (.app .b 100000312 1000000 [(vI 640000160001536), (.bin .add .i64 (lI 1) (vI 640000160003072)), (.dv .quo .i64 (.bin .add .i64 (.bin .add .i64 (lI 1) (vI 640000160003072)) (lI 255)) 256), (.bin .add .i64 (lI 1) (vI 640000160005120))]) (dE defs_z18 3 10))))
def es_z18 : List E := [(vX 640001996805120), (vI 640001996805121), (vI 640001996805122), (vI 640001996805123), (vI 640001996805124), (vX 640001996805125), (vI 640001996805126), (vI 640001996805127), (vI 640001996805128), (vX 640001996805129), (.bin .add .i64 (lI 1) (vI 640000160003072)), (vI 640000160001536)]
def z18 : Ent := b18.fw (fnR cZ6n.l.F b18.np ob_z18 es_z18 post18)
theorem ev_z18 : evE Try.prog G0 (tabOf cZ6n.fs) (ltOf cZ6n.ls) 40 10 z18 = some (ob_z18, es_z18) := by kernel_rfl

theorem mod_mod {n b : Int} (h : 0 < b) : (n.tmod b + b).tmod b = n % b ∧ -b < n.tmod b ∧ n.tmod b < b := by
  have h1 := Int.tmod_lt_of_pos n h
  have h2 := Int.lt_tmod_of_pos n h
  refine ⟨?_, h2, h1⟩
  rw [Int.tmod_eq_emod_of_nonneg (by omega), Int.add_emod_right]
  rw [Int.tmod_def, Int.sub_eq_add_neg, ← Int.mul_neg, Int.add_mul_emod_self_left]
theorem ok25 : EntryOK Try.prog G0 e25 := cIok.entryP mixed ev_25 _ rfl _ rfl fun xs hf hp => by
  obtain ⟨l, hl, hF⟩ := ctx_P (l0 := cI.l)
  show ob_25.tt cI.l.F _ = true ∧ outsP e25.fn _ cI.l.F _ _ _ _
  rw [hl]
  obtain ⟨n, b, rfl⟩ := two_of (fits_length hf)
  obtain ⟨h0, h1, _⟩ := hf
  simp only [norm_i] at h0 h1
  obtain ⟨p1, p2⟩ := hp
  simp only [ewA, ewL, preC, binI, dvI, shI, cmpB, env, bi, List.headD, List.tail, List.map, Nat.reduceAdd] at p1 p2
  obtain ⟨m1, m2, m3⟩ := mod_mod (n := n) p1
  have w1 : IntKind.i64.wrap (n.tmod b) = n.tmod b := i64w (by omega) (by omega)
  have w2 : IntKind.i64.wrap (n.tmod b + b) = n.tmod b + b := i64w (by omega) (by omega)
  have hb : (b != 0) = true := by simp; omega
  have w0 : IntKind.i64.wrap 0 = 0 := i64w (by decide) (by decide)
  refine ⟨?_, ?_, trivial⟩
  · simp only [ob_25, ewA, ewL, preC, binI, dvI, shI, cmpB, env, bi, List.headD, List.tail, List.map, Nat.reduceAdd, h0, h1, w0, hb]
  · simp only [es_25, e25, ewA, ewL, preC, binI, dvI, shI, cmpB, env, bi, List.headD, List.tail, List.map, Nat.reduceAdd, h0, h1, w1, w2, m1]

section
variable {S now bu le mo T h ln vn D n b l m : Int} {p : RL × RL} {S' now' bu' le' mo' T' h' ln' vn' D' : Int}
theorem WS.touchA {l' i d e : Int} (s : WS S now bu le mo T n b l m p) (hi : 0 ≤ i ∧ i < (p.2.length : Int)) (hD : (dc D).length = p.2.length) (hd : n < d ∧ d ≤ n + 2147483648) (hc : gC p.2 i.toNat 4 = 0 ∨ d < gC p.2 i.toNat 4) (hl : (if 0 < gC p.2 i.toNat 4 then l else l + 1) = l')
    (q : post13 [S, now, bu, le, mo, T, h, ln, vn, D, i, d] [S', now', bu', le', mo', T', h', ln', vn', D', e]) : WS S' now' bu' le' mo' T' n b l' m (armW n d p i.toNat) := by
  have e1 := s.a1
  have e2 := s.t
  have q1 := q.1 ⟨by show 0 ≤ i ∧ i < ((dc D).length : Int); omega, by show now < d; omega, by show d ≤ now + 2147483648; omega⟩
  have q2 : if gC (dc T) i.toNat 4 = 0 ∨ d < gC (dc T) i.toNat 4 then ∃ e, isOut e14.fn [S, now, bu, le, mo, T, i, d] 0 kW7 [S', now', bu', le', mo', T', e] else wp6 [S', now', bu', le', mo', T'] = wp6 [S, now, bu, le, mo, T] := q1
  rw [e2, if_pos hc] at q2
  obtain ⟨e, o0, o1, o2, o3, o4, o5, o6, _⟩ := q2
  exact (s.arm hi hd hl o0 o1 o2 o3 o4 o5 o6).1
theorem WS.touchB {i d e : Int} (s : WS S now bu le mo T n b l m p) (hi : 0 ≤ i ∧ i < (p.2.length : Int)) (hD : (dc D).length = p.2.length) (hd : n < d ∧ d ≤ n + 2147483648) (hc : ¬ (gC p.2 i.toNat 4 = 0 ∨ d < gC p.2 i.toNat 4))
    (q : post13 [S, now, bu, le, mo, T, h, ln, vn, D, i, d] [S', now', bu', le', mo', T', h', ln', vn', D', e]) : WS S' now' bu' le' mo' T' n b l m p := by
  have e1 := s.a1
  have e2 := s.t
  have q1 := q.1 ⟨by show 0 ≤ i ∧ i < ((dc D).length : Int); omega, by show now < d; omega, by show d ≤ now + 2147483648; omega⟩
  have q2 : if gC (dc T) i.toNat 4 = 0 ∨ d < gC (dc T) i.toNat 4 then ∃ e, isOut e14.fn [S, now, bu, le, mo, T, i, d] 0 kW7 [S', now', bu', le', mo', T', e] else [S', now', bu', le', mo', T'] = [S, now, bu, le, mo, T] := q1
  rw [e2, if_neg hc] at q2
  injection q2 with g1 g2
  injection g2 with g2 g3
  injection g3 with g3 g4
  injection g4 with g4 g5
  injection g5 with g5 g6
  injection g6 with g6 _
  subst g1 g2 g3 g4 g5 g6
  exact s
/-- The list of a tick, in full. -/
theorem WS.tickL {O c : Int} {d a : Nat → Int} {B : List Nat} (s : WS S now bu le mo T n b l m p) (hz : LZ S now bu le mo T h ln vn D c d a B) (hm : m + b ≤ 1152921504606846976) (q : post14 [S, now, bu, le, mo, T, h, ln, vn, D] [S', now', bu', le', mo', T', h', ln', vn', D', O]) :
    ∃ N P : List Nat, (tkN (nowT n) h.toNat (tickW n b p).1).2 = idR P ∧ (∀ i, i ∈ N ↔ now < 1099511627776 ∧ (i : Int) < c ∧ a i = now + 1) ∧ P = (B ++ N).take h.toNat ∧ LZ S' now' bu' le' mo' T' h' ln' vn' D' c (cmD (nowT now) d P) (cmA (nowT now) d a P) ((B ++ N).drop h.toNat) ∧ dc O = idR (cmO (nowT now) d P) ∧ now' = nowT now ∧ bu' = bu ∧ (mo ≤ mo' ∧ mo' ≤ mo + bu) ∧ h' = h ∧ vn' = vn + cmV (nowT now) d P ∧
      (P = [] → WS S' now' bu' le' mo' T' (nowT n) b (l - 0) (m + (tickW n b p).2) (tkN (nowT n) h.toNat (tickW n b p).1).1) := by
  have hh := hz.hd
  obtain ⟨L, ⟨v1, v2, v3, v4, v5, v6, v7, v8, v9, v10, v11, v12, v13, v15, ⟨o0, o1, o2, o3, o4, o5, o6, _⟩, ⟨t0, t1, t2, t3, t4, t5, t6, t7, _⟩, hx⟩, q2⟩ := q
  obtain ⟨s1, _⟩ := s.tick hm o0 o1 o2 o3 o4 o5 o6
  obtain ⟨s2, hL, _⟩ := s1.take (k := h) (by omega) t0 t1 t2 t3 t4 t5 t6 t7
  obtain ⟨N, P, n1, n2, n3, n4, n5, n6, n7, n8, n9, n10⟩ := q2 c d a B hz
  refine ⟨N, P, hL.symm.trans n1, n2, n3, n4, n5, n6, n7, n8, n9, n10, fun hP => ?_⟩
  subst hP
  have hx2 : [S', now', bu', le', mo', T'] = [v8, v9, v10, v11, v12, v13] := hx n1
  injection hx2 with g1 g2
  injection g2 with g2 g3
  injection g3 with g3 g4
  injection g4 with g4 g5
  injection g5 with g5 g6
  injection g6 with g6 _
  have hl : (tkN (nowT n) h.toNat (tickW n b p).1).2 = [] := hL.symm.trans n1
  rw [hl] at s2
  subst g1 g2 g3 g4 g5 g6
  exact s2
/-- A tick in which no timer is handled, with one hand. -/
theorem WS.quiet {O c : Int} {d a : Nat → Int} (s : WS S now bu le mo T n b l m p) (hz : LZ S now bu le mo T h ln vn D c d a []) (h1 : h = 1) (hm : m + b ≤ 1152921504606846976) (q : post14 [S, now, bu, le, mo, T, h, ln, vn, D] [S', now', bu', le', mo', T', h', ln', vn', D', O]) (hr : (tkN (nowT n) 1 (tickW n b p).1).2 = []) :
    WS S' now' bu' le' mo' T' (nowT n) b (l - 0) (m + (tickW n b p).2) (tkN (nowT n) 1 (tickW n b p).1).1 ∧ LZ S' now' bu' le' mo' T' h' ln' vn' D' c d a [] ∧ dc O = [] ∧ now' = nowT now ∧ bu' = bu ∧ (mo ≤ mo' ∧ mo' ≤ mo + bu) ∧ h' = 1 ∧ vn' = vn := by
  subst h1
  obtain ⟨N, P, t1, t2, t3, t4, t5, t6, t7, t8, t9, t10, t11⟩ := s.tickL hz hm q
  have hP : P = [] := idR_inj (R := []) (hr.symm.trans t1)
  subst hP
  have hN : N = [] := by
    cases N with
    | nil => rfl
    | cons x N => cases t3
  subst hN
  rw [cm_nilD, cm_nilA] at t4
  exact ⟨t11 rfl, t4, t5, t6, t7, t8, t9, t10.trans (Int.add_zero _)⟩
theorem one_of : ∀ {l : List Nat} {k : Nat}, l.Nodup → (∀ i, i ∈ l ↔ i = k) → l = [k]
  | [], k, _, h => by have := (h k).2 rfl; cases this
  | [x], k, _, h => by rw [(h x).1 (by simp)]
  | x :: y :: l, k, hn, h => by
    have e1 := (h x).1 (by simp)
    have e2 := (h y).1 (by simp)
    subst e1 e2
    simp at hn
theorem none_of : ∀ {l : List Nat}, (∀ i, i ∉ l) → l = []
  | [], _ => rfl
  | x :: _, h => absurd (by simp) (h x)
end
theorem cZ6ok : cZ6.OK Try.prog G0 := (Ctx.OK.nil.addF okz12.1 rfl).addF ok25 rfl
theorem okz18 : EntryOK Try.prog G0 z18 ∧ PostOK z18 post18 := by
  refine cZ6ok.nm.entryH mixed ev_z18 (by kernel_rfl) _ rfl fun xs hf hp => ?_
  obtain ⟨l, hl, hF⟩ := ctx_P (l0 := cZ6n.l)
  show ∃ ρ : Nat → Int, _ ∧ ob_z18.tt cZ6n.l.F ρ = true ∧ post18 xs (es_z18.map (E.den cZ6n.l.F ρ))
  rw [hl]
  have F25 := FC (k := 100000025) rfl (hF e25.nm (by rfl) (by decide))
  have F312 := FC (k := 100000312) rfl (hF z12.nm (by rfl) (by decide))
  replace hf : fits [(.i .i64), (.i .i64), (.i .i64)] xs := hf
  obtain ⟨n, xs0, hx0, hn, hf0⟩ := fits_cons hf
  obtain ⟨k, xs1, hx1, hk, hf1⟩ := fits_cons hf0
  obtain ⟨m, xs2, hx2, hm, hf2⟩ := fits_cons hf1
  have hxn := fits_nil hf2
  subst hxn hx2 hx1 hx0
  simp only [norm_i] at hn hk hm
  obtain ⟨ρ, hρ, hd⟩ := solve (F := l.F) 3 defs_z18 (by kernel_rfl) [n, k, m]
  have hDf := dE_tt (by kernel_rfl) hd
  refine ⟨ρ, hρ, ?_⟩
  have r0 : ρ 0 = n := hρ 0 (by decide)
  have r1 : ρ 1 = k := hρ 1 (by decide)
  have r2 : ρ 2 = m := hρ 2 (by decide)
  obtain ⟨v1, hv1, hd1, hn1⟩ := nmd hd 0 rfl
  obtain ⟨v2, hv2, hd2, hn2⟩ := nmd hd 1 rfl
  obtain ⟨v3, hv3, hd3, hn3⟩ := nmd hd 2 rfl
  obtain ⟨v4, hv4, hd4, hn4⟩ := nmd hd 3 rfl
  obtain ⟨v5, hv5, hd5, hn5⟩ := nmd hd 4 rfl
  obtain ⟨v6, hv6, hd6, hn6⟩ := nmd hd 5 rfl
  obtain ⟨v7, hv7, hd7, hn7⟩ := nmd hd 6 rfl
  obtain ⟨v8, hv8, hd8, hn8⟩ := nmd hd 7 rfl
  obtain ⟨v9, hv9, hd9, hn9⟩ := nmd hd 8 rfl
  obtain ⟨v10, hv10, hd10, hn10⟩ := nmd hd 9 rfl
  obtain ⟨v11, hv11, hd11, hn11⟩ := nmd hd 10 rfl
  obtain ⟨v12, hv12, hd12, hn12⟩ := nmd hd 11 rfl
  obtain ⟨v13, hv13, hd13, hn13⟩ := nmd hd 12 rfl
  simp only [norm_i] at hn1 hn2 hn3 hn5 hn6 hn7 hn8 hn10 hn11 hn12
  simp (disch := omega) only [norm_i, a_z18_0, F25, F312, Ent.nm_fn, r0, hn, r1, hk, r2, hm, hv1, hn1, hv2, hn2, hv3, hn3, hv4, hv5, hn5, hv6, hn6, hv7, hn7, hv8, hn8, hv9, hv10, hn10, hv11, hn11, hv12, hn12, hv13, ewA, ewL, preC, binI, dvI, shI, cmpB, env, bi, List.headD, List.tail, List.map, Nat.reduceAdd, ewR, ewB, ewM, if_true, if_false, implies_true, forall_const, ne_eq, reduceCtorEq, Int.reduceEq, Int.reduceLT, Int.reduceLE, Int.reduceToNat, Int.reduceAdd, Int.reduceSub, Int.reduceMul, Int.reduceNeg, Int.reduceBEq, Nat.reduceLT, Nat.reduceEqDiff] at hd1 hd2 hd3 hd4 hd5 hd6 hd7 hd8 hd9 hd10 hd11 hd12 hd13
  have hSS := And.intro (And.intro (And.intro (And.intro (And.intro F25 F312) (And.intro r0 hn)) (And.intro (And.intro r1 hk) (And.intro r2 hm))) (And.intro (And.intro (And.intro hv1 hn1) (And.intro hv2 hn2)) (And.intro (And.intro hv3 hn3) (And.intro hv4 hv5)))) (And.intro (And.intro (And.intro (And.intro hn5 hv6) (And.intro hn6 hv7)) (And.intro (And.intro hn7 hv8) (And.intro hn8 hv9))) (And.intro (And.intro (And.intro hv10 hn10) (And.intro hv11 hn11)) (And.intro (And.intro hv12 hn12) (And.intro hv13 hDf))))
  have f1 : ∀ a b, e25.fn 0 [a, b] = a % b := fun _ _ => rfl
  have y1 : e25.pre [n, 1073741824] := ⟨by show (0 : Int) < 1073741824; decide, by show (1073741824 : Int) ≤ _; decide⟩
  have y2 : e25.pre [k, 300] := ⟨by show (0 : Int) < 300; decide, by show (300 : Int) ≤ _; decide⟩
  have z1 : v1 = n % 1073741824 := by rw [hd1, f1]; exact i64w (by omega) (by omega)
  have z2 : v2 = k % 300 := by rw [hd2, f1]; exact i64w (by omega) (by omega)
  obtain ⟨c, hc⟩ : ∃ c, c = 1 + v2 := ⟨_, rfl⟩
  have hcr : 1 ≤ c ∧ c ≤ 300 := by omega
  have y3 : e25.pre [m, c] := ⟨by show (0 : Int) < c; omega, by show c ≤ _; omega⟩
  have wc : IntKind.i64.wrap (1 + v2) = c := by rw [← hc]; exact i64w (by omega) (by omega)
  have g := Int.emod_nonneg m (show c ≠ 0 by omega)
  have g' := Int.emod_lt_of_pos m (show 0 < c by omega)
  have wq : IntKind.i64.wrap (c + 255) = c + 255 := i64w (by omega) (by omega)
  simp only [wc] at hd3
  have z3 : v3 = m % c := by rw [hd3, f1]; exact i64w (by omega) (by omega)
  have w3 : IntKind.i64.wrap (1 + v3) = 1 + v3 := i64w (by omega) (by omega)
  have td : (c + 255).tdiv 256 = (c + 255) / 256 := Int.tdiv_eq_ediv_of_nonneg (by omega)
  have wt : IntKind.i64.wrap ((c + 255) / 256) = (c + 255) / 256 := i64w (by omega) (by omega)
  simp only [wc, wq, td, wt, w3] at hd4 hd5 hd6 hd7 hd8 hd9 hd10 hd11 hd12 hd13
  have y4 : z12.pre [v1, c, (c + 255) / 256, 1 + v3] := by
    show newW v1 c ((c + 255) / 256) ∧ 1 ≤ 1 + v3 ∧ 1 + v3 ≤ 4096
    unfold newW; omega
  refine ⟨?_, ?_⟩
  · simp (disch := omega) only [ob_z18, ewA, ewL, preC, binI, dvI, shI, cmpB, env, bi, List.headD, List.tail, List.map, Nat.reduceAdd, ewR, ewB, ewM, if_true, if_false, implies_true, forall_const, ne_eq, reduceCtorEq, Int.reduceEq, Int.reduceLT, Int.reduceLE, Int.reduceToNat, Int.reduceAdd, Int.reduceSub, Int.reduceMul, Int.reduceNeg, Int.reduceBEq, Nat.reduceLT, Nat.reduceEqDiff, hSS, wc, wq, td, wt, w3, y1, y2, y3, y4]
  · simp (disch := omega) only [es_z18, ewA, ewL, preC, binI, dvI, shI, cmpB, env, bi, List.headD, List.tail, List.map, Nat.reduceAdd, ewR, ewB, ewM, if_true, if_false, implies_true, forall_const, ne_eq, reduceCtorEq, Int.reduceEq, Int.reduceLT, Int.reduceLE, Int.reduceToNat, Int.reduceAdd, Int.reduceSub, Int.reduceMul, Int.reduceNeg, Int.reduceBEq, Nat.reduceLT, Nat.reduceEqDiff, hSS, wc, wq, w3]
    obtain ⟨_, q1, q2, q3, q4, q5, q6⟩ := (PostOK.use (ks := [(.i .i64), (.i .i64), (.i .i64), (.i .i64)]) (os := [.x, (.i .i64), (.i .i64), (.i .i64), (.i .i64), .x, (.i .i64), (.i .i64), (.i .i64), .x]) (vs := [v4, v5, v6, v7, v8, v9, v10, v11, v12, v13]) okz12.2 rfl rfl ⟨hd4, hd5, hd6, hd7, hd8, hd9, hd10, hd11, hd12, hd13, trivial⟩) ⟨hn1, i64w (by omega) (by omega), wt, w3, trivial⟩ y4
    have ec : capF [n, k, m] = c := by show 1 + k % 300 = c; omega
    have eh : hdF [n, k, m] = 1 + v3 := by show 1 + m % capF [n, k, m] = 1 + v3; rw [ec, z3]
    unfold post18
    rw [ec, eh]
    exact ⟨q1, q2.trans z1, q3, q4, q5, q6, rfl, z1⟩

end
end Go.Proofs.Ytnockichpnaoeaa.Ew
