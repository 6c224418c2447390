/- Layer 19: one timer. -/
import Derived.Test.YtnockichpnaoeaaLe
set_option linter.unusedVariables false
set_option linter.unusedSimpArgs false
namespace Go.Proofs.Ytnockichpnaoeaa.Ew
open Go Go.RowKit
noncomputable section
--P Try.prog G0

def z0D : Nat → Int := fun _ => 0
section
variable {S now bu le mo T h ln vn D c : Int} {d a : Nat → Int} {B : List Nat} {S' now' bu' le' mo' T' h' ln' vn' D' : Int}
/-- A tick in which nothing becomes due. -/
theorem LZ.tick0 {O : Int} (hz : LZ S now bu le mo T h ln vn D c d a []) (hno : ∀ j : Nat, (j : Int) < c → a j ≠ now + 1) (hm : mo + bu ≤ 1125899906842624) (hv : vn + 4096 ≤ 1125899906842624) (hn : now < 1099511627776)
    (ho : isOut z14.fn [S, now, bu, le, mo, T, h, ln, vn, D] 0 [.x, .i .i64, .i .i64, .i .i64, .i .i64, .x, .i .i64, .i .i64, .i .i64, .x, .x] [S', now', bu', le', mo', T', h', ln', vn', D', O]) :
    LZ S' now' bu' le' mo' T' h' ln' vn' D' c d a [] ∧ dc O = [] ∧ now' = now + 1 ∧ bu' = bu ∧ (mo ≤ mo' ∧ mo' ≤ mo + bu) ∧ h' = h ∧ vn' = vn := by
  obtain ⟨N, P, n1, n2, z1, o11, m2, m3, m5, m7, m9⟩ := hz.tickZ hm hv ho
  rw [nowT_lt hn] at z1 o11 m2 m9
  have hN : N = [] := none_of fun j hj => by
    obtain ⟨_, j2, j3⟩ := (n1 j).1 hj
    exact hno j j2 j3
  subst hN
  have hP : P = [] := n2.trans (by simp)
  subst hP
  rw [cm_nilD, cm_nilA] at z1
  have eB : List.drop h.toNat ([] ++ ([] : List Nat)) = [] := by simp
  rw [eB] at z1
  exact ⟨z1, o11, m2, m3, m5, m7, m9.trans (Int.add_zero _)⟩
theorem upD_upD (d : Nat → Int) (i : Nat) (x y : Int) : upD (upD d i x) i y = upD d i y := by
  funext j
  by_cases e : j = i
  · rw [e, upD_same, upD_same]
  · rw [upD_ne _ _ e, upD_ne _ _ e, upD_ne _ _ e]
theorem upD_z0D (i : Nat) : upD z0D i 0 = z0D := upD_self rfl
theorem cnt_succ' (n : Nat) (p : Nat → Bool) : cnt (n + 1) p = cnt n p + if p n = true then 1 else 0 := by
  unfold cnt
  rw [List.range_succ, List.countP_append]
  simp [List.countP_cons]
theorem cnt_one {i : Nat} {A : Int} (hA : 0 < A) : ∀ n, cnt n (fun j => decide (0 < upD z0D i A j)) = if i < n then 1 else 0
  | 0 => rfl
  | n + 1 => by
    rw [cnt_succ', cnt_one (i := i) hA n]
    by_cases e : n = i
    · subst e; rw [upD_same, if_neg (by omega), if_pos (decide_eq_true hA), if_pos (by omega)]
    · rw [upD_ne _ _ e]
      have h0 : ¬ decide ((0 : Int) < z0D n) = true := by show ¬ decide ((0 : Int) < 0) = true; decide
      rw [if_neg h0]
      by_cases h : i < n
      · rw [if_pos h, if_pos (by omega)]
      · rw [if_neg h, if_neg (by omega)]
theorem cnt_none : ∀ n, cnt n (fun j => decide (0 < z0D j)) = 0
  | 0 => rfl
  | n + 1 => by
    have h0 : ¬ decide ((0 : Int) < z0D n) = true := by show ¬ decide ((0 : Int) < 0) = true; decide
    rw [cnt_succ', cnt_none n, if_neg h0]
/-- How many timers there are: one, or none. -/
theorem LZ.len1 {i : Nat} {A v : Int} (hz : LZ S now bu le mo T h ln vn D c d (upD z0D i A) B) (hi : (i : Int) < c) (hA : 0 < A) (ho : v = IntKind.i64.wrap (z15.fn 0 [S, now, bu, le, mo, T, h, ln, vn, D])) : v = 1 := by
  rw [hz.lenV ho, hz.ln, hz.w.len]
  unfold cntP
  rw [cnt_one hA, if_pos (by omega)]; rfl
theorem LZ.len0 {v : Int} (hz : LZ S now bu le mo T h ln vn D c d z0D B) (ho : v = IntKind.i64.wrap (z15.fn 0 [S, now, bu, le, mo, T, h, ln, vn, D])) : v = 0 := by
  rw [hz.lenV ho, hz.ln, hz.w.len]
  unfold cntP
  rw [cnt_none]; rfl
theorem LZ.nowV (hz : LZ S now bu le mo T h ln vn D c d a B) {v : Int} (ho : v = IntKind.i64.wrap (z16.fn 0 [S, now, bu, le, mo, T, h, ln, vn, D])) : v = now := by
  have := hz.w.tm
  exact ho.trans (i64w (by show _ ≤ now; omega) (by show now ≤ _; omega))
theorem pz16 {r : Int} (hp : preZ [S, now, bu, le, mo, T, h, ln, vn, D]) : z16.pre [S, now, bu, le, mo, T, h, ln, vn, D] ∧ z21.pre [S, now, bu, le, mo, T, h, ln, vn, D, r] := by
  obtain ⟨c, d, a, B, hz⟩ := hp
  replace hz : LZ S now bu le mo T _ ln vn D c d a B := hz
  have h1 := hz.cp
  have h2 := hz.w.ct
  exact ⟨hz.w.lenOK _, by show ((dc D).length : Int) ≤ 4096; omega, hz.rD⟩
theorem LZ.p16 (hz : LZ S now bu le mo T h ln vn D c d a B) : z16.pre [S, now, bu, le, mo, T, h, ln, vn, D] := hz.w.lenOK _
theorem LZ.p21 (hz : LZ S now bu le mo T h ln vn D c d a B) (i : Int) : z21.pre [S, now, bu, le, mo, T, h, ln, vn, D, i] := by
  have := hz.cp; have := hz.w.ct
  exact ⟨by show ((dc D).length : Int) ≤ 4096; omega, hz.rD⟩
/-- The deadline that is told. -/
theorem LZ.dead (hz : LZ S now bu le mo T h ln vn D c d a B) {i x y : Int} (hi : 0 ≤ i ∧ i < c) (ho : isOut z21.fn [S, now, bu, le, mo, T, h, ln, vn, D, i] 0 [.i .i64, .b] [x, y]) : x = d i.toNat ∧ y = b2i (decide (d i.toNat ≠ 0)) := by
  obtain ⟨o0, o1, _⟩ := ho
  have hcp := hz.cp
  have hr : riD [S, now, bu, le, mo, T, h, ln, vn, D, i] := ⟨hi.1, by show i < ((dc D).length : Int); omega⟩
  have e := hz.dl i.toNat (by omega)
  have hdr := hz.dr (i := i.toNat) (by omega)
  have htm := hz.w.tm
  have f0 : z21.fn 0 [S, now, bu, le, mo, T, h, ln, vn, D, i] = d i.toNat := (if_pos hr).trans e
  have f1 : z21.fn 1 [S, now, bu, le, mo, T, h, ln, vn, D, i] = b2i (decide (riD [S, now, bu, le, mo, T, h, ln, vn, D, i]) && decide (gC (dc D) i.toNat 0 ≠ 0)) := rfl
  refine ⟨o0.trans ((congrArg IntKind.i64.wrap f0).trans (i64w (by omega) (by omega))), o1.trans ((congrArg K.b.norm f1).trans ?_)⟩
  rw [norm_b2i, decide_eq_true hr, Bool.true_and, e]
/-- Touch, where there is this one timer. -/
theorem LZ.touch1 {i x e f A : Int} (hz : LZ S now bu le mo T h ln vn D c (upD z0D i.toNat f) (upD z0D i.toNat A) []) (hA : 0 < A) (hi : 0 ≤ i ∧ i < c) (hx : now < x ∧ x ≤ now + 2147483648)
    (ho : isOut z13.fn [S, now, bu, le, mo, T, h, ln, vn, D, i, x] 0 [.x, .i .i64, .i .i64, .i .i64, .i .i64, .x, .i .i64, .i .i64, .i .i64, .x, .i .i64] [S', now', bu', le', mo', T', h', ln', vn', D', e]) :
    LZ S' now' bu' le' mo' T' h' ln' vn' D' c (upD z0D i.toNat x) (upD z0D i.toNat (if x < A then x else A)) [] ∧ e = 0 ∧ now' = now ∧ bu' = bu ∧ mo' = mo ∧ h' = h ∧ vn' = vn := by
  obtain ⟨_, z1, q⟩ := hz.touch hi hx ho
  refine ⟨?_, q⟩
  rw [upD_upD, upD_same] at z1
  by_cases hh : x < A
  · rw [if_pos (Or.inr hh), upD_upD] at z1
    rw [if_pos hh]; exact z1
  · rw [if_neg (by omega)] at z1
    rw [if_neg hh]; exact z1
end

end
end Go.Proofs.Ytnockichpnaoeaa.Ew
