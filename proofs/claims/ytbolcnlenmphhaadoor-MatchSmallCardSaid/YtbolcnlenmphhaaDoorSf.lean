/- Layer 26: MatchSmall: the summaries that the second evaluator uses. -/
import Derived.Test.YtbolcnlenmphhaaDoorSe
set_option linter.unusedVariables false
set_option linter.unusedSimpArgs false
namespace Go.Proofs.YtbolcnlenmphhaaDoor
open Go Go.RowKit

def H0 : Ew.Glob := fun b off => if b = 0 then (if off = 0 then some (.sc (.lit (.i .u16) 0)) else if off = 1 then some (.sc (.lit (.i .u16) 65535)) else none) else none
theorem hGG : ∀ Im0 w, Ew.GOK H0 Im0 w → Ev.GOK G0 w := by
  intro Im0 w h F ρ b off v hv
  have h0 := h (fun _ _ _ => 0) (fun _ => 0) 0 0 (.sc (.lit (.i .u16) 0)) rfl
  have h1 := h (fun _ _ _ => 0) (fun _ => 0) 0 1 (.sc (.lit (.i .u16) 65535)) rfl
  unfold G0 at hv
  split at hv
  · rename_i hb
    subst hb
    split at hv
    · rename_i ho
      subst ho
      simp only [Option.some.injEq] at hv; subst hv
      exact ⟨h0.2.1, h0.2.2.1, trivial⟩
    · split at hv
      · rename_i ho
        subst ho
        simp only [Option.some.injEq] at hv; subst hv
        exact ⟨h1.2.1, h1.2.2.1, trivial⟩
      · cases hv
  · cases hv

def n11 : Ev.Entry := ⟨11, 11, [.a ruleK, .s (.i .u8), .a factsK], .one (.l .b 1), fun _ _ => 1⟩
def n21 : Ev.Entry := ⟨21, 21, [.a ruleK, .a ruleK], .one (.l .b 1), fun _ _ => 1⟩
def n12 : Ev.Entry := ⟨12, 12, [], .one (.l .b 1), fun _ _ => 1⟩
theorem OK11 : Ew.EntryOK Tryd.prog H0 (Ew.entOf n11) := Ew.entOf_ok hGG fun xs hx w hG => (ok11 xs hx w hG).mono fun e w' h => ⟨h.1, h.2⟩
theorem OK21 : Ew.EntryOK Tryd.prog H0 (Ew.entOf n21) := Ew.entOf_ok hGG fun xs hx w hG => (ok21 xs hx w hG).mono fun e w' h => ⟨h.1, h.2⟩
theorem OK12 : Ew.EntryOK Tryd.prog H0 (Ew.entOf n12) := Ew.entOf_ok hGG fun xs hx w hG => (ok12 xs hx w hG).mono fun e w' h => ⟨h.1, h.2⟩

noncomputable def fn23 : Nat → List Int → Int := fun j xs => Ev.fnOf [] (es23 (xs.getD 13 0).toNat) j (xs.eraseIdx 13)
noncomputable def n23 : Ev.Entry := ⟨23, 23, [.a ruleK, .s (.i .i64), .s (.i .i64)], .one (.a ruleK), fn23⟩
def pre23 (xs : List Int) : Prop := 0 ≤ xs.getD 13 0 ∧ xs.getD 13 0 < 13
theorem OK23 : Ew.EntryOK Tryd.prog H0 (Ew.entOfP n23 pre23) := Ew.entOf_okP hGG (by
  intro xs hx hp w hG
  match xs, hx, hp with
  | [x0, x1, x2, x3, x4, x5, x6, x7, x8, x9, x10, x11, x12, x13, x14], hx, hp =>
    replace hx : Ev.fits [.i .u8, .i .u8, .i .u8, .i .u8, .i .u32, .i .u8, .i .u32, .i .u8, .i .u16, .i .u16, .i .u16, .i .u16, .b, .i .i64, .i .i64] [x0, x1, x2, x3, x4, x5, x6, x7, x8, x9, x10, x11, x12, x13, x14] := hx
    obtain ⟨h0, h1, h2, h3, h4, h5, h6, h7, h8, h9, h10, h11, h12, h13, h14, _⟩ := hx
    have hp1 : 0 ≤ x13 := hp.1
    have hp2 : x13 < 13 := hp.2
    obtain ⟨k, rfl⟩ := Int.eq_ofNat_of_zero_le hp1
    have hk : k < 13 := by omega
    clear hp hp1 hp2
    match k, hk with
    | 0, _ => exact ok23_0 [x0, x1, x2, x3, x4, x5, x6, x7, x8, x9, x10, x11, x12, x14] ⟨h0, h1, h2, h3, h4, h5, h6, h7, h8, h9, h10, h11, h12, h14, trivial⟩ w hG
    | 1, _ => exact ok23_1 [x0, x1, x2, x3, x4, x5, x6, x7, x8, x9, x10, x11, x12, x14] ⟨h0, h1, h2, h3, h4, h5, h6, h7, h8, h9, h10, h11, h12, h14, trivial⟩ w hG
    | 2, _ => exact ok23_2 [x0, x1, x2, x3, x4, x5, x6, x7, x8, x9, x10, x11, x12, x14] ⟨h0, h1, h2, h3, h4, h5, h6, h7, h8, h9, h10, h11, h12, h14, trivial⟩ w hG
    | 3, _ => exact ok23_3 [x0, x1, x2, x3, x4, x5, x6, x7, x8, x9, x10, x11, x12, x14] ⟨h0, h1, h2, h3, h4, h5, h6, h7, h8, h9, h10, h11, h12, h14, trivial⟩ w hG
    | 4, _ => exact ok23_4 [x0, x1, x2, x3, x4, x5, x6, x7, x8, x9, x10, x11, x12, x14] ⟨h0, h1, h2, h3, h4, h5, h6, h7, h8, h9, h10, h11, h12, h14, trivial⟩ w hG
    | 5, _ => exact ok23_5 [x0, x1, x2, x3, x4, x5, x6, x7, x8, x9, x10, x11, x12, x14] ⟨h0, h1, h2, h3, h4, h5, h6, h7, h8, h9, h10, h11, h12, h14, trivial⟩ w hG
    | 6, _ => exact ok23_6 [x0, x1, x2, x3, x4, x5, x6, x7, x8, x9, x10, x11, x12, x14] ⟨h0, h1, h2, h3, h4, h5, h6, h7, h8, h9, h10, h11, h12, h14, trivial⟩ w hG
    | 7, _ => exact ok23_7 [x0, x1, x2, x3, x4, x5, x6, x7, x8, x9, x10, x11, x12, x14] ⟨h0, h1, h2, h3, h4, h5, h6, h7, h8, h9, h10, h11, h12, h14, trivial⟩ w hG
    | 8, _ => exact ok23_8 [x0, x1, x2, x3, x4, x5, x6, x7, x8, x9, x10, x11, x12, x14] ⟨h0, h1, h2, h3, h4, h5, h6, h7, h8, h9, h10, h11, h12, h14, trivial⟩ w hG
    | 9, _ => exact ok23_9 [x0, x1, x2, x3, x4, x5, x6, x7, x8, x9, x10, x11, x12, x14] ⟨h0, h1, h2, h3, h4, h5, h6, h7, h8, h9, h10, h11, h12, h14, trivial⟩ w hG
    | 10, _ => exact ok23_10 [x0, x1, x2, x3, x4, x5, x6, x7, x8, x9, x10, x11, x12, x14] ⟨h0, h1, h2, h3, h4, h5, h6, h7, h8, h9, h10, h11, h12, h14, trivial⟩ w hG
    | 11, _ => exact ok23_11 [x0, x1, x2, x3, x4, x5, x6, x7, x8, x9, x10, x11, x12, x14] ⟨h0, h1, h2, h3, h4, h5, h6, h7, h8, h9, h10, h11, h12, h14, trivial⟩ w hG
    | 12, _ => exact ok23_12 [x0, x1, x2, x3, x4, x5, x6, x7, x8, x9, x10, x11, x12, x14] ⟨h0, h1, h2, h3, h4, h5, h6, h7, h8, h9, h10, h11, h12, h14, trivial⟩ w hG
    | k + 13, hk => omega)
end Go.Proofs.YtbolcnlenmphhaaDoor
