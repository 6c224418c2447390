/- Layer 26: prefixes, of the reference. -/
import Derived.Test.YtbolcnlenmphhaaDoorPow
import Derived.Handy
import Derived.Deep.QuietTactic
import Derived.BigQuiet
set_option linter.unusedVariables false
namespace Go.Proofs.YtbolcnlenmphhaaDoor
open Go.RowKit

def psize (n : Int) : Int := 2 ^ (32 - n).toNat
theorem psize_pos (n : Int) : 0 < psize n := Int.pow_pos (by omega)
theorem psize_le (n : Int) (h : 0 ≤ n) : psize n ≤ 4294967296 := by
  unfold psize
  have : (2:Nat) ^ (32 - n).toNat ≤ 2 ^ 32 := Nat.pow_le_pow_right (by omega) (by omega)
  have e : ((2 ^ (32 - n).toNat : Nat) : Int) = (2:Int) ^ (32 - n).toNat := by simp
  omega

theorem psize_call (n : Int) (h : 0 ≤ n) (h' : n ≤ 255) (w : World) : Calls Tryd.prog 62 #[.int .i64 (32 - n)] w fun e w' => e = .returned (.int .u64 (psize n)) ∧ w' = w := by
  have := power_any (32 - n) (by omega) w
  have e : IntKind.wrap .u64 (2 ^ (32 - n).toNat) = psize n := by
    have h1 := psize_pos n
    have h2 := psize_le n h
    rw [wrap_u64]
    show psize n % _ = _
    omega
  rw [e] at this
  exact this

theorem below_drewN {B : Nat} {a w : World} (h : Below B a w) (n : Nat) : Below B a (w.drewN n) := ⟨h.os, h.tape, h.output, h.size, h.block⟩

theorem in_any (p n a : Int) (hp : 0 ≤ p ∧ p < 4294967296) (hn : 0 ≤ n ∧ n ≤ 255) (ha : 0 ≤ a ∧ a < 4294967296) (w : World) :
    Calls Tryd.prog 63 #[.agg #[.int .u32 p, .int .u8 n], .int .u32 a] w fun e w' => e = .returned (.bool (a / psize n == p / psize n)) ∧ Below w.heap.size w w' := by
  have h1 := psize_pos n
  have h2 := psize_le n hn.1
  go_enter Tryd.func63, Tryd.ntmps63
  go_wp2_with fail
  go_call (psize_call n hn.1 hn.2 _) as e w' ⟨he, hb⟩
  subst he hb
  go_wp2_with fail
  generalize hs0 : psize n = s at h1 h2 ⊢
  have H := Lib.hid hs0
  clear hs0
  have hs : s ≠ 0 := by omega
  go_quiet (fail)
  go_wp2
  go_ret
  rw [H.out]
  exact ⟨rfl, below_drewN ((Below.refl _ _).alloc (Nat.le_refl _) _) _⟩

theorem rightPrefix_any (p n : Int) (hp : 0 ≤ p ∧ p < 4294967296) (hn : 0 ≤ n ∧ n ≤ 255) (w : World) :
    Calls Tryd.prog 52 #[.agg #[.int .u32 p, .int .u8 n]] w fun e w' => e = .returned (.bool (decide (n ≤ 32) && p % psize n == 0)) ∧ Below w.heap.size w w' := by
  have h1 := psize_pos n
  have h2 := psize_le n hn.1
  have hc := fun w => psize_call n hn.1 hn.2 w
  go_enter Tryd.func52, Tryd.ntmps52
  go_wp2
  by_cases h32 : n ≤ 32
  · generalize hs0 : psize n = s at h1 h2 hc ⊢
    have H := Lib.hid hs0
    clear hs0
    have hs : s ≠ 0 := by omega
    have e1 : IntKind.i64.wrap (32 - n) = 32 - n := IntWalk.i64_in _ (by omega)
    go_quiet ((go_at_call 62; exact Calls.quiet_of_same (hc _)))
    go_wp2
    go_ret
    rw [H.out, decide_eq_true h32, Bool.true_and]
    exact ⟨rfl, below_drewN ((Below.refl _ _).alloc (Nat.le_refl _) _) _⟩
  · have hd : decide (n ≤ 32) = false := by simpa using h32
    go_quiet (fail)
    go_wp2
    go_ret
    exact ⟨rfl, below_drewN ((Below.refl _ _).alloc (Nat.le_refl _) _) _⟩
end Go.Proofs.YtbolcnlenmphhaaDoor
