/- Layer 19: what Touch, Tick and the readers say of a lazy object, in one line each. -/
import Derived.Test.YtnockichpnaoeaaLd
set_option linter.unusedVariables false
set_option linter.unusedSimpArgs false
namespace Go.Proofs.Ytnockichpnaoeaa.Ew
open Go Go.RowKit
noncomputable section
--P Try.prog G0

section
variable {S now bu le mo T h ln vn D c : Int} {d a : Nat → Int} {B : List Nat}
theorem LZ.pz (hz : LZ S now bu le mo T h ln vn D c d a B) {r : List Int} : preZ (S :: now :: bu :: le :: mo :: T :: h :: ln :: vn :: D :: r) := ⟨c, d, a, B, hz⟩
/-- The alarm that is told. -/
theorem LZ.alarm (hz : LZ S now bu le mo T h ln vn D c d a B) {i x y : Int} (hi : 0 ≤ i ∧ i < c) (ho : isOut z22.fn [S, now, bu, le, mo, T, h, ln, vn, D, i] 0 [.i .i64, .b] [x, y]) : x = a i.toNat ∧ y = b2i (decide (a i.toNat ≠ 0)) := hz.w.dead hi ho
theorem LZ.lag (hz : LZ S now bu le mo T h ln vn D c d a B) {v : Int} (ho : v = IntKind.i64.wrap (z23.fn 0 [S, now, bu, le, mo, T, h, ln, vn, D])) : v = (B.length : Int) := hz.w.lagV ho
theorem LZ.vain (hz : LZ S now bu le mo T h ln vn D c d a B) {v : Int} (ho : v = IntKind.i64.wrap (z17.fn 0 [S, now, bu, le, mo, T, h, ln, vn, D])) : v = vn := by
  have := hz.vb
  exact ho.trans (i64w (by show _ ≤ vn; omega) (by show vn ≤ _; omega))
theorem LZ.lenV (hz : LZ S now bu le mo T h ln vn D c d a B) {v : Int} (ho : v = IntKind.i64.wrap (z15.fn 0 [S, now, bu, le, mo, T, h, ln, vn, D])) : v = ln := by
  have := hz.lnr
  exact ho.trans (i64w (by show _ ≤ ln; omega) (by show ln ≤ _; omega))
theorem LZ.p22 (hz : LZ S now bu le mo T h ln vn D c d a B) (i : Int) : z22.pre [S, now, bu, le, mo, T, h, ln, vn, D, i] := hz.w.preR i
theorem eq19 {v L r : Int} {R : List Nat} (h : r = K.b.norm (e19.fn 0 [v, L])) (ho : dc v = idR R) (hL : dc L = idR R := by rw [dc_cd]; rfl) : r = 1 := by
  rw [h]
  show K.b.norm (b2i (dc v == dc L)) = 1
  rw [ho, hL]; simp [b2i, K.norm]
theorem pr19 {v L : Int} {R : List Nat} (ho : dc v = idR R) (h1 : R.length < 4096) (h2 : ∀ i ∈ R, i < 4096) (hL : dc L = idR R := by rw [dc_cd]; rfl) : e19.pre [v, L] := by
  have hl : ((idR R).length : Int) < cap8 := by unfold cap8 idR; rw [List.length_map]; omega
  have hr : rowsOK intK (idR R) := fun r hr => by
    obtain ⟨j, hj, rfl⟩ := List.mem_map.1 hr
    have := h2 j hj
    exact ⟨i64w (by omega) (by omega), trivial⟩
  show ((dc v).length : Int) < cap8 ∧ ((dc L).length : Int) < cap8 ∧ rowsOK intK (dc v) ∧ rowsOK intK (dc L)
  rw [ho, hL]
  exact ⟨hl, hl, hr, hr⟩
theorem LZ.p23 (hz : LZ S now bu le mo T h ln vn D c d a B) : z23.pre [S, now, bu, le, mo, T, h, ln, vn, D] := hz.w.pre16
end

section
variable {S now bu le mo T h ln vn D c : Int} {d a : Nat → Int} {B : List Nat} {S' now' bu' le' mo' T' h' ln' vn' D' : Int}
theorem LZ.ws (hz : LZ S now bu le mo T h ln vn D c d a B) : IntKind.i64.wrap now = now ∧ IntKind.i64.wrap bu = bu ∧ IntKind.i64.wrap le = le ∧ IntKind.i64.wrap mo = mo ∧ IntKind.i64.wrap h = h ∧ IntKind.i64.wrap ln = ln ∧ IntKind.i64.wrap vn = vn := by
  have := hz.w.tm; have := hz.w.bg; have := hz.w.ler; have := hz.w.mb; have := hz.hd; have := hz.lnr; have := hz.vb
  refine ⟨?_, ?_, ?_, ?_, ?_, ?_, ?_⟩ <;> exact i64w (by omega) (by omega)
/-- Touch, of a timer and a deadline that there are. -/
theorem LZ.touch {i x e : Int} (hz : LZ S now bu le mo T h ln vn D c d a B) (hi : 0 ≤ i ∧ i < c) (hx : now < x ∧ x ≤ now + 2147483648)
    (ho : isOut z13.fn [S, now, bu, le, mo, T, h, ln, vn, D, i, x] 0 [.x, .i .i64, .i .i64, .i .i64, .i .i64, .x, .i .i64, .i .i64, .i .i64, .x, .i .i64] [S', now', bu', le', mo', T', h', ln', vn', D', e]) :
    post13 [S, now, bu, le, mo, T, h, ln, vn, D, i, x] [S', now', bu', le', mo', T', h', ln', vn', D', e] ∧
    LZ S' now' bu' le' mo' T' h' ln' vn' D' c (upD d i.toNat x) (if a i.toNat = 0 ∨ x < a i.toNat then upD a i.toNat x else a) B ∧ e = 0 ∧ now' = now ∧ bu' = bu ∧ mo' = mo ∧ h' = h ∧ vn' = vn := by
  have ht := hz.w.tm
  have hc := hz.w.ct
  obtain ⟨w1, w2, w3, w4, w5, w6, w7⟩ := hz.ws
  have p := PostOK.use (ks := [.x, .i .i64, .i .i64, .i .i64, .i .i64, .x, .i .i64, .i .i64, .i .i64, .x, .i .i64, .i .i64]) okz13.2 rfl rfl ho ⟨rfl, w1, w2, w3, w4, rfl, w5, w6, w7, rfl, i64w (by omega) (by omega), i64w (by omega) (by omega), trivial⟩ hz.pz
  exact ⟨p, (p.2 _ _ _ _ hz).1 ⟨hi, hx⟩⟩
/-- Touch, of what there is not. -/
theorem LZ.touchX {i x e : Int} (hz : LZ S now bu le mo T h ln vn D c d a B) (hn : ¬ ((0 ≤ i ∧ i < c) ∧ now < x ∧ x ≤ now + 2147483648)) (wi : IntKind.i64.wrap i = i) (wx : IntKind.i64.wrap x = x)
    (ho : isOut z13.fn [S, now, bu, le, mo, T, h, ln, vn, D, i, x] 0 [.x, .i .i64, .i .i64, .i .i64, .i .i64, .x, .i .i64, .i .i64, .i .i64, .x, .i .i64] [S', now', bu', le', mo', T', h', ln', vn', D', e]) :
    LZ S' now' bu' le' mo' T' h' ln' vn' D' c d a B ∧ e = 2 ∧ now' = now ∧ bu' = bu ∧ mo' = mo ∧ h' = h ∧ vn' = vn := by
  obtain ⟨w1, w2, w3, w4, w5, w6, w7⟩ := hz.ws
  have p := PostOK.use (ks := [.x, .i .i64, .i .i64, .i .i64, .i .i64, .x, .i .i64, .i .i64, .i .i64, .x, .i .i64, .i .i64]) okz13.2 rfl rfl ho ⟨rfl, w1, w2, w3, w4, rfl, w5, w6, w7, rfl, wi, wx, trivial⟩ hz.pz
  obtain ⟨q1, q2⟩ := (p.2 _ _ _ _ hz).2 hn
  have g0 : S' = S := q2 0 (by decide)
  have g1 : now' = now := q2 1 (by decide)
  have g2 : bu' = bu := q2 2 (by decide)
  have g3 : le' = le := q2 3 (by decide)
  have g4 : mo' = mo := q2 4 (by decide)
  have g5 : T' = T := q2 5 (by decide)
  have g6 : h' = h := q2 6 (by decide)
  have g7 : ln' = ln := q2 7 (by decide)
  have g8 : vn' = vn := q2 8 (by decide)
  have g9 : D' = D := q2 9 (by decide)
  subst g0 g1 g2 g3 g4 g5 g6 g7 g8 g9
  exact ⟨hz, q1, rfl, rfl, rfl, rfl, rfl⟩
/-- Cancel, of a timer that there is. -/
theorem LZ.cancel {i e : Int} (hz : LZ S now bu le mo T h ln vn D c d a B) (hi : 0 ≤ i ∧ i < c)
    (ho : isOut z19.fn [S, now, bu, le, mo, T, h, ln, vn, D, i] 0 [.x, .i .i64, .i .i64, .i .i64, .i .i64, .x, .i .i64, .i .i64, .i .i64, .x, .i .i64] [S', now', bu', le', mo', T', h', ln', vn', D', e]) :
    LZ S' now' bu' le' mo' T' h' ln' vn' D' c (upD d i.toNat 0) (upD a i.toNat 0) (B.erase i.toNat) ∧ e = (if d i.toNat = 0 then 6 else 0) ∧ now' = now ∧ bu' = bu ∧ mo' = mo ∧ h' = h ∧ vn' = vn := by
  have hc := hz.w.ct
  obtain ⟨w1, w2, w3, w4, w5, w6, w7⟩ := hz.ws
  have p := PostOK.use (ks := [.x, .i .i64, .i .i64, .i .i64, .i .i64, .x, .i .i64, .i .i64, .i .i64, .x, .i .i64]) okz19.2 rfl rfl ho ⟨rfl, w1, w2, w3, w4, rfl, w5, w6, w7, rfl, i64w (by omega) (by omega), trivial⟩ hz.pz
  exact (p _ _ _ _ hz).1 hi
theorem LZ.cancelX {i e : Int} (hz : LZ S now bu le mo T h ln vn D c d a B) (hi : ¬ (0 ≤ i ∧ i < c)) (wi : IntKind.i64.wrap i = i)
    (ho : isOut z19.fn [S, now, bu, le, mo, T, h, ln, vn, D, i] 0 [.x, .i .i64, .i .i64, .i .i64, .i .i64, .x, .i .i64, .i .i64, .i .i64, .x, .i .i64] [S', now', bu', le', mo', T', h', ln', vn', D', e]) :
    LZ S' now' bu' le' mo' T' h' ln' vn' D' c d a B ∧ e = 2 ∧ now' = now ∧ bu' = bu ∧ mo' = mo ∧ h' = h ∧ vn' = vn := by
  obtain ⟨w1, w2, w3, w4, w5, w6, w7⟩ := hz.ws
  have p := PostOK.use (ks := [.x, .i .i64, .i .i64, .i .i64, .i .i64, .x, .i .i64, .i .i64, .i .i64, .x, .i .i64]) okz19.2 rfl rfl ho ⟨rfl, w1, w2, w3, w4, rfl, w5, w6, w7, rfl, wi, trivial⟩ hz.pz
  obtain ⟨q1, q2⟩ := (p _ _ _ _ hz).2 hi
  have g0 : S' = S := q2 0 (by decide)
  have g1 : now' = now := q2 1 (by decide)
  have g2 : bu' = bu := q2 2 (by decide)
  have g3 : le' = le := q2 3 (by decide)
  have g4 : mo' = mo := q2 4 (by decide)
  have g5 : T' = T := q2 5 (by decide)
  have g6 : h' = h := q2 6 (by decide)
  have g7 : ln' = ln := q2 7 (by decide)
  have g8 : vn' = vn := q2 8 (by decide)
  have g9 : D' = D := q2 9 (by decide)
  subst g0 g1 g2 g3 g4 g5 g6 g7 g8 g9
  exact ⟨hz, q1, rfl, rfl, rfl, rfl, rfl⟩
/-- Tick. -/
theorem LZ.tickP {O : Int} (hz : LZ S now bu le mo T h ln vn D c d a B) (hm : mo + bu ≤ 1125899906842624) (hv : vn + 4096 ≤ 1125899906842624)
    (ho : isOut z14.fn [S, now, bu, le, mo, T, h, ln, vn, D] 0 [.x, .i .i64, .i .i64, .i .i64, .i .i64, .x, .i .i64, .i .i64, .i .i64, .x, .x] [S', now', bu', le', mo', T', h', ln', vn', D', O]) :
    post14 [S, now, bu, le, mo, T, h, ln, vn, D] [S', now', bu', le', mo', T', h', ln', vn', D', O] := by
  obtain ⟨w1, w2, w3, w4, w5, w6, w7⟩ := hz.ws
  exact PostOK.use (ks := [.x, .i .i64, .i .i64, .i .i64, .i .i64, .x, .i .i64, .i .i64, .i .i64, .x]) okz14.2 rfl rfl ho ⟨rfl, w1, w2, w3, w4, rfl, w5, w6, w7, rfl, trivial⟩ ⟨hz.pz, hm, hv⟩
/-- Tick, seen from outside. -/
theorem LZ.tickZ {O : Int} (hz : LZ S now bu le mo T h ln vn D c d a B) (hm : mo + bu ≤ 1125899906842624) (hv : vn + 4096 ≤ 1125899906842624)
    (ho : isOut z14.fn [S, now, bu, le, mo, T, h, ln, vn, D] 0 [.x, .i .i64, .i .i64, .i .i64, .i .i64, .x, .i .i64, .i .i64, .i .i64, .x, .x] [S', now', bu', le', mo', T', h', ln', vn', D', O]) :
    ∃ N P : List Nat, (∀ i, i ∈ N ↔ now < 1099511627776 ∧ (i : Int) < c ∧ a i = now + 1) ∧ P = (B ++ N).take h.toNat ∧
      LZ S' now' bu' le' mo' T' h' ln' vn' D' c (cmD (nowT now) d P) (cmA (nowT now) d a P) ((B ++ N).drop h.toNat) ∧ dc O = idR (cmO (nowT now) d P) ∧ now' = nowT now ∧ bu' = bu ∧ (mo ≤ mo' ∧ mo' ≤ mo + bu) ∧ h' = h ∧ vn' = vn + cmV (nowT now) d P := by
  obtain ⟨L, _, q⟩ := hz.tickP hm hv ho
  obtain ⟨N, P, _, n1, n2, n3, n4, n5, n6, n7, n8, n9⟩ := q c d a B hz
  exact ⟨N, P, n1, n2, n3, n4, n5, n6, n7, n8, n9⟩
theorem LZ.p13 (hz : LZ S now bu le mo T h ln vn D c d a B) (i x : Int) : z13.pre [S, now, bu, le, mo, T, h, ln, vn, D, i, x] := hz.pz
theorem LZ.p19 (hz : LZ S now bu le mo T h ln vn D c d a B) (i : Int) : z19.pre [S, now, bu, le, mo, T, h, ln, vn, D, i] := hz.pz
theorem LZ.p14 (hz : LZ S now bu le mo T h ln vn D c d a B) (hm : mo + bu ≤ 1125899906842624) (hv : vn + 4096 ≤ 1125899906842624) : z14.pre [S, now, bu, le, mo, T, h, ln, vn, D] := ⟨hz.pz, hm, hv⟩
theorem pz22 {r : Int} (hp : preZ [S, now, bu, le, mo, T, h, ln, vn, D]) : z22.pre [S, now, bu, le, mo, T, h, ln, vn, D, r] ∧ z23.pre [S, now, bu, le, mo, T, h, ln, vn, D] := by
  obtain ⟨c, d, a, B, hz⟩ := hp
  replace hz : LZ S now bu le mo T _ ln vn D c d a B := hz
  exact ⟨hz.p22 r, hz.p23⟩
theorem nowT_lt {x : Int} (hx : x < 1099511627776) : nowT x = x + 1 := by unfold nowT; rw [if_neg (by omega)]
theorem cmD_out {now : Int} {d : Nat → Int} {R : List Nat} {j : Nat} (h : j ∉ R) : cmD now d R j = d j := if_neg fun hh => h hh.1
theorem cmA_out {now : Int} {d a : Nat → Int} {R : List Nat} {j : Nat} (h : j ∉ R) : cmA now d a R j = a j := if_neg h
theorem cm1 {now : Int} {d a : Nat → Int} {r : Nat} (h : d r ≤ now) : cmD now d [r] r = 0 ∧ cmA now d a [r] r = 0 ∧ cmO now d [r] = [r] ∧ cmV now d [r] = 0 := by
  refine ⟨if_pos ⟨by simp, h⟩, (if_pos (by simp)).trans (if_pos h), ?_, ?_⟩
  · exact List.filter_cons_of_pos (p := fun j => decide (d j ≤ now)) (decide_eq_true h)
  · unfold cmV
    rw [List.filter_cons_of_neg (p := fun j => decide (now < d j)) (by rw [decide_eq_true_iff]; omega)]; rfl
theorem cm1v {now : Int} {d a : Nat → Int} {r : Nat} (h : now < d r) : cmD now d [r] r = d r ∧ cmA now d a [r] r = d r ∧ cmO now d [r] = [] ∧ cmV now d [r] = 1 := by
  refine ⟨if_neg (by omega), (if_pos (by simp)).trans (if_neg (by omega)), ?_, ?_⟩
  · exact List.filter_cons_of_neg (p := fun j => decide (d j ≤ now)) (by rw [decide_eq_true_iff]; omega)
  · unfold cmV
    rw [List.filter_cons_of_pos (p := fun j => decide (now < d j)) (decide_eq_true h)]; rfl
end

end
end Go.Proofs.Ytnockichpnaoeaa.Ew
