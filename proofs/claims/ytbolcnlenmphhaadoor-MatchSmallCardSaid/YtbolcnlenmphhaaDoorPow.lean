/- Layer 26: powers of two. -/
import Derived.Test.YtbolcnlenmphhaaDoorChecked
import Derived.WalkKit
import Derived.Below
import Derived.Lib.Hide
set_option linter.unusedVariables false
namespace Go.Proofs.YtbolcnlenmphhaaDoor
open Go.RowKit

theorem wrap_u64 (x : Int) : IntKind.wrap .u64 x = x % 18446744073709551616 := by
  simp [IntKind.wrap, IntKind.signed, IntKind.bits]
theorem pow_step (k : Nat) : IntKind.wrap .u64 (IntKind.wrap .u64 (2 ^ k) * 2) = IntKind.wrap .u64 (2 ^ (k + 1)) := by
  simp only [wrap_u64, Int.pow_succ]
  omega

theorem power_any (n : Int) (hn : n ≤ 9223372036854775807) (w : World) : Calls Tryd.prog 62 #[.int .i64 n] w fun e w' => e = .returned (.int .u64 (IntKind.wrap .u64 (2 ^ n.toNat))) ∧ w' = w := by
  go_enter Tryd.func62, Tryd.ntmps62
  go_wp2
  go_loop [3, 4] (fun p i => ∃ k : Nat, (k : Int) ≤ max n 0 ∧ i = .int .i64 k ∧ ∃ q : Int, q = IntKind.wrap .u64 (2 ^ k) ∧ p = .int .u64 q) (fun _ i => (n - intOf i).toNat)
  case atStart => exact ⟨0, by omega, rfl, 1, rfl, rfl⟩
  case round =>
    obtain ⟨k, hk, rfl, q, hq, rfl⟩ := hrel
    have H := Lib.hid hq
    clear hq
    go_wp2
    · have hlt : (k : Int) < n := by assumption
      go_round
      case rel => exact ⟨k + 1, by omega, by go_num, _, by rw [← pow_step, ← H.out], rfl⟩
      case measure => simp [intOf]; omega
    · have hlt : ¬ (k : Int) < n := by first | assumption | omega
      have : n.toNat = k := by omega
      rw [this, ← H.out]
      go_ret
      exact ⟨rfl, rfl⟩
end Go.Proofs.YtbolcnlenmphhaaDoor
