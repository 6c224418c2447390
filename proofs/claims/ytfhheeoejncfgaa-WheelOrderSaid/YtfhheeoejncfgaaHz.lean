/- Layer 18: what is read of a wheel; what is rejected. -/
import Derived.Test.YtfhheeoejncfgaaHw
set_option linter.unusedVariables false
set_option linter.unusedSimpArgs false
namespace Go.Proofs.Ytfhheeoejncfgaa.Ew
open Go Go.RowKit
noncomputable section
section
variable {S now bu le mo T c : Int} {d : Nat → Int} {B : List Nat}
theorem WV.riW (h : WV S now bu le mo T c d B) {i : Int} {r : List Int} : Ew.riW (S :: now :: bu :: le :: mo :: T :: i :: r) ↔ (0 ≤ i ∧ i < c) := by
  have := h.cp
  show (0 ≤ i ∧ i < ((dc T).length : Int)) ↔ _
  omega
/-- Deadline. -/
theorem WV.dead (h : WV S now bu le mo T c d B) {i x y : Int} (hi : 0 ≤ i ∧ i < c) (ho : isOut e29.fn [S, now, bu, le, mo, T, i] 0 [.i .i64, .b] [x, y]) : x = d i.toNat ∧ y = b2i (decide (d i.toNat ≠ 0)) := by
  obtain ⟨o0, o1, _⟩ := ho
  have hr : Ew.riW [S, now, bu, le, mo, T, i] := h.riW.2 hi
  have e := h.dl i.toNat (by omega)
  have hdr := h.dr (i := i.toNat) (by omega)
  have htm := h.tm
  have f0 : e29.fn 0 [S, now, bu, le, mo, T, i] = d i.toNat := (if_pos hr).trans e
  have f1 : e29.fn 1 [S, now, bu, le, mo, T, i] = b2i (decide (Ew.riW [S, now, bu, le, mo, T, i]) && decide (gC (dc T) i.toNat 4 ≠ 0)) := rfl
  refine ⟨o0.trans ((congrArg IntKind.i64.wrap f0).trans (i64w (by omega) (by omega))), o1.trans ((congrArg K.b.norm f1).trans ?_)⟩
  rw [norm_b2i, decide_eq_true hr, Bool.true_and, e]
/-- Place: its error. -/
theorem WV.plc (h : WV S now bu le mo T c d B) {i x y z : Int} (ho : isOut e30.fn [S, now, bu, le, mo, T, i] 0 [.i .i64, .i .i64, .i .i64] [x, y, z]) : z = if 0 ≤ i ∧ i < c then (if now < d i.toNat then 0 else 6) else 2 := by
  obtain ⟨_, _, o2, _⟩ := ho
  have f2 : e30.fn 2 [S, now, bu, le, mo, T, i] = if Ew.riW [S, now, bu, le, mo, T, i] then (if now < gC (dc T) i.toNat 4 then 0 else 6) else 2 := rfl
  refine o2.trans ((congrArg IntKind.i64.wrap f2).trans ?_)
  by_cases hi : 0 ≤ i ∧ i < c
  · rw [if_pos (h.riW.2 hi), if_pos hi, h.dl i.toNat (by omega)]
    split <;> rfl
  · rw [if_neg (fun h' => hi (h.riW.1 h')), if_neg hi]; rfl
theorem WV.nowV (h : WV S now bu le mo T c d B) {v : Int} (ho : v = IntKind.i64.wrap (e18.fn 0 [S, now, bu, le, mo, T])) : v = now := by
  have := h.tm
  exact ho.trans (i64w (by show _ ≤ now; omega) (by show now ≤ _; omega))
theorem WV.lenV (h : WV S now bu le mo T c d B) {v : Int} (ho : v = IntKind.i64.wrap (e20.fn 0 [S, now, bu, le, mo, T])) : v = le := by
  have := h.ler
  exact ho.trans (i64w (by show _ ≤ le; omega) (by show le ≤ _; omega))
theorem WV.lagV (h : WV S now bu le mo T c d B) {v : Int} (ho : v = IntKind.i64.wrap (e16.fn 0 [S, now, bu, le, mo, T])) : v = (B.length : Int) := by
  have := h.lenB
  have := h.ct
  have e : e16.fn 0 [S, now, bu, le, mo, T] = (B.length : Int) := h.lag
  rw [e] at ho
  exact ho.trans (i64w (by omega) (by omega))
theorem WV.keep (h : WV S now bu le mo T c d B) {S' now' bu' le' mo' T' : Int} (h0 : S' = S) (h1 : now' = IntKind.i64.wrap now) (h2 : bu' = IntKind.i64.wrap bu) (h3 : le' = IntKind.i64.wrap le) (h4 : mo' = IntKind.i64.wrap mo) (h5 : T' = T) : S' = S ∧ now' = now ∧ bu' = bu ∧ le' = le ∧ mo' = mo ∧ T' = T := by
  have := h.tm; have := h.bg; have := h.ler; have := h.mb
  exact ⟨h0, h1.trans (i64w (by omega) (by omega)), h2.trans (i64w (by omega) (by omega)), h3.trans (i64w (by omega) (by omega)), h4.trans (i64w (by omega) (by omega)), h5⟩
/-- Arm, Cancel and Take of what there is not: nothing changes. -/
theorem WV.armB {S' now' bu' le' mo' T' e i dd : Int} (h : WV S now bu le mo T c d B) (hb : ¬ ((0 ≤ i ∧ i < c) ∧ now < dd ∧ dd ≤ now + 2147483648))
    (ho : isOut e14.fn [S, now, bu, le, mo, T, i, dd] 0 [.x, .i .i64, .i .i64, .i .i64, .i .i64, .x, .i .i64] [S', now', bu', le', mo', T', e]) :
    (S' = S ∧ now' = now ∧ bu' = bu ∧ le' = le ∧ mo' = mo ∧ T' = T) ∧ e = 2 := by
  obtain ⟨o0, o1, o2, o3, o4, o5, o6, _⟩ := ho
  have hn : ¬ okA [S, now, bu, le, mo, T, i, dd] := fun hh => hb ⟨h.riW.1 hh.1, hh.2⟩
  exact ⟨h.keep (o0.trans (if_neg hn)) o1 o2 (o3.trans (congrArg _ (if_neg hn))) o4 (o5.trans (if_neg hn)), o6.trans ((congrArg IntKind.i64.wrap (if_neg hn)).trans rfl)⟩
theorem WV.canB {S' now' bu' le' mo' T' e i : Int} (h : WV S now bu le mo T c d B) (hb : ¬ (0 ≤ i ∧ i < c))
    (ho : isOut e24.fn [S, now, bu, le, mo, T, i] 0 [.x, .i .i64, .i .i64, .i .i64, .i .i64, .x, .i .i64] [S', now', bu', le', mo', T', e]) :
    (S' = S ∧ now' = now ∧ bu' = bu ∧ le' = le ∧ mo' = mo ∧ T' = T) ∧ e = 2 := by
  obtain ⟨o0, o1, o2, o3, o4, o5, o6, _⟩ := ho
  have hr : ¬ Ew.riW [S, now, bu, le, mo, T, i] := fun hh => hb (h.riW.1 hh)
  have hn : ¬ (Ew.riW [S, now, bu, le, mo, T, i] ∧ gC (dc T) i.toNat 4 ≠ 0) := fun hh => hr hh.1
  exact ⟨h.keep (o0.trans (if_neg hn)) o1 o2 (o3.trans (congrArg _ (if_neg hn))) o4 (o5.trans (if_neg hn)), o6.trans ((congrArg IntKind.i64.wrap (if_neg hr)).trans rfl)⟩
theorem WV.takeB {S' now' bu' le' mo' T' v e k : Int} (h : WV S now bu le mo T c d B) (hk : k < 0)
    (ho : isOut e17.fn [S, now, bu, le, mo, T, k] 0 [.x, .i .i64, .i .i64, .i .i64, .i .i64, .x, .x, .i .i64] [S', now', bu', le', mo', T', v, e]) :
    (S' = S ∧ now' = now ∧ bu' = bu ∧ le' = le ∧ mo' = mo ∧ T' = T) ∧ e = 2 := by
  obtain ⟨o0, o1, o2, o3, o4, o5, _, o7, _⟩ := ho
  exact ⟨h.keep (o0.trans (if_pos hk)) o1 o2 (o3.trans (congrArg _ (if_pos hk))) o4 (o5.trans (if_pos hk)), o7.trans ((congrArg IntKind.i64.wrap (if_pos hk)).trans rfl)⟩
theorem erase_len {l : List Nat} {i : Nat} : (l.erase i).length = if i ∈ l then l.length - 1 else l.length := by
  by_cases h : i ∈ l
  · rw [List.length_erase_of_mem h, if_pos h]
  · rw [List.erase_of_not_mem h, if_neg h]
/-- Whether an ID is in a list of IDs. -/
theorem hasR_id (l : List Nat) (i : Nat) : (l.map fun j : Nat => [(j : Int)]).any (fun r => r == [(i : Int)]) = decide (i ∈ l) := by
  induction l with
  | nil => simp
  | cons a l ih =>
    rw [List.map_cons, List.any_cons, ih]
    by_cases h : i = a
    · subst h; simp
    · have : ¬ ((a : Int) = (i : Int)) := by omega
      simp [h, this]
end
end
end Go.Proofs.Ytfhheeoejncfgaa.Ew
