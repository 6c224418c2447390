/-
  No cell of these rows narrows 'for every input' (looked for: loops, veiled, ifaces, maps, wideKeys, modest, calm, conditions, laid).
  DERIVED. THE GIVEN ROWS OF THIS SEAT. 7 by the template 'for every input the law returns true; each argument reads behind the call as it read before'; 0 by the template 'total and deterministic' (their statements: YtnockichpnaoeaaTotals.lean).
  GIVEN WITH THE SEED: the statements are not yours to turn. If you find one false, say at which input.
  Laid BY PROGRAM, IN A SANDBOX (cutbox-rows.mjs): the forced cells as the released guide's own fill.sh prints them over the translation afabda3f64bcf660… (all of the seat's roots in one cut). By AI agents, Wed Nov 11 2026. No macro, syntax, notation, axiom, sorry.
-/
import Derived.Test.YtnockichpnaoeaaChecked
import GoSem.Claim
import GoSem.ClaimJoined
import GoSem.ClaimMapViews
import Derived.JoinedTies
import Derived.KernelRfl
namespace Go.Proofs.Ytnockichpnaoeaa
/- THE CELL 'sum', in the pinned program and in every row, IS THE sha256 OF THE DUMP (.gsa) THAT YtnockichpnaoeaaProg.lean LOADS. Nothing in Lean hashes anything: it is a label: what it is worth is what the hold of that sum in a sandbox is worth. -/
noncomputable def Try.pinned : Pinned := { name := "ytnockichpnaoeaa", sum := "afabda3f64bcf66012b0423ab53a8879e1d017409902ce666d94943abaeae4f0", checked := Try.checked }
namespace Rows
def none {H : Type} : Left H := { results := [], args := [] }

/-- 'bafflelaw19.LazyQuiet': WHATEVER THE INPUT: true; the input reads as it did. -/
def lazyQuietSpec : ChangeSpec := { name := "lazyQuiet", fn := fun _ => fun
  | [d1, d2, d3] => { results := [.lit (.bool true)], args := [d1, d2, d3] }
  | _ => none }
def lazyQuietRow : OpenClaim := { program := "ytnockichpnaoeaa", sum := "afabda3f64bcf66012b0423ab53a8879e1d017409902ce666d94943abaeae4f0", func := "baffle/bafflelaw19.LazyQuiet", spec := "lazyQuiet", unfollowed := true, recurses := true, apart := false }
def LazyQuietSaid : Prop := lazyQuietRow.holds Try.pinned (OpenSpec.ofChange lazyQuietSpec)

/-- ITS FALSE NEIGHBOUR: 'it returns false'. Refute it at one input. -/
def lazyQuietWrong : ChangeSpec := { name := "lazyQuiet", fn := fun _ => fun
  | [d1, d2, d3] => { results := [.lit (.bool false)], args := [d1, d2, d3] }
  | _ => none }
def LazyQuietWrongFalsely : Prop := lazyQuietRow.holds Try.pinned (OpenSpec.ofChange lazyQuietWrong)

/-- 'bafflelaw19.LazyWrong': WHATEVER THE INPUT: true; the input reads as it did. -/
def lazyWrongSpec : ChangeSpec := { name := "lazyWrong", fn := fun _ => fun
  | [d1, d2] => { results := [.lit (.bool true)], args := [d1, d2] }
  | _ => none }
def lazyWrongRow : OpenClaim := { program := "ytnockichpnaoeaa", sum := "afabda3f64bcf66012b0423ab53a8879e1d017409902ce666d94943abaeae4f0", func := "baffle/bafflelaw19.LazyWrong", spec := "lazyWrong", unfollowed := true, recurses := true, apart := false }
def LazyWrongSaid : Prop := lazyWrongRow.holds Try.pinned (OpenSpec.ofChange lazyWrongSpec)

/-- ITS FALSE NEIGHBOUR: 'it returns false'. Refute it at one input. -/
def lazyWrongWrong : ChangeSpec := { name := "lazyWrong", fn := fun _ => fun
  | [d1, d2] => { results := [.lit (.bool false)], args := [d1, d2] }
  | _ => none }
def LazyWrongWrongFalsely : Prop := lazyWrongRow.holds Try.pinned (OpenSpec.ofChange lazyWrongWrong)

/-- 'bafflelaw19.LazyTells': WHATEVER THE INPUT: true; the input reads as it did. -/
def lazyTellsSpec : ChangeSpec := { name := "lazyTells", fn := fun _ => fun
  | [d1, d2, d3, d4, d5] => { results := [.lit (.bool true)], args := [d1, d2, d3, d4, d5] }
  | _ => none }
def lazyTellsRow : OpenClaim := { program := "ytnockichpnaoeaa", sum := "afabda3f64bcf66012b0423ab53a8879e1d017409902ce666d94943abaeae4f0", func := "baffle/bafflelaw19.LazyTells", spec := "lazyTells", unfollowed := true, recurses := true, apart := false }
def LazyTellsSaid : Prop := lazyTellsRow.holds Try.pinned (OpenSpec.ofChange lazyTellsSpec)

/-- ITS FALSE NEIGHBOUR: 'it returns false'. Refute it at one input. -/
def lazyTellsWrong : ChangeSpec := { name := "lazyTells", fn := fun _ => fun
  | [d1, d2, d3, d4, d5] => { results := [.lit (.bool false)], args := [d1, d2, d3, d4, d5] }
  | _ => none }
def LazyTellsWrongFalsely : Prop := lazyTellsRow.holds Try.pinned (OpenSpec.ofChange lazyTellsWrong)

/-- 'bafflelaw19.LazySmall': WHATEVER THE INPUT: true; the input reads as it did. -/
def lazySmallSpec : ChangeSpec := { name := "lazySmall", fn := fun _ => fun
  | [] => { results := [.lit (.bool true)], args := [] }
  | _ => none }
def lazySmallRow : OpenClaim := { program := "ytnockichpnaoeaa", sum := "afabda3f64bcf66012b0423ab53a8879e1d017409902ce666d94943abaeae4f0", func := "baffle/bafflelaw19.LazySmall", spec := "lazySmall", unfollowed := true, recurses := true, apart := false }
def LazySmallSaid : Prop := lazySmallRow.holds Try.pinned (OpenSpec.ofChange lazySmallSpec)

/-- ITS FALSE NEIGHBOUR: 'it returns false'. Refute it at one input. -/
def lazySmallWrong : ChangeSpec := { name := "lazySmall", fn := fun _ => fun
  | [] => { results := [.lit (.bool false)], args := [] }
  | _ => none }
def LazySmallWrongFalsely : Prop := lazySmallRow.holds Try.pinned (OpenSpec.ofChange lazySmallWrong)

/-- 'bafflelaw19.LazyAlarms': WHATEVER THE INPUT: true; the input reads as it did. -/
def lazyAlarmsSpec : ChangeSpec := { name := "lazyAlarms", fn := fun _ => fun
  | [d1, d2, d3, d4] => { results := [.lit (.bool true)], args := [d1, d2, d3, d4] }
  | _ => none }
def lazyAlarmsRow : OpenClaim := { program := "ytnockichpnaoeaa", sum := "afabda3f64bcf66012b0423ab53a8879e1d017409902ce666d94943abaeae4f0", func := "baffle/bafflelaw19.LazyAlarms", spec := "lazyAlarms", unfollowed := true, recurses := true, apart := false }
def LazyAlarmsSaid : Prop := lazyAlarmsRow.holds Try.pinned (OpenSpec.ofChange lazyAlarmsSpec)

/-- ITS FALSE NEIGHBOUR: 'it returns false'. Refute it at one input. -/
def lazyAlarmsWrong : ChangeSpec := { name := "lazyAlarms", fn := fun _ => fun
  | [d1, d2, d3, d4] => { results := [.lit (.bool false)], args := [d1, d2, d3, d4] }
  | _ => none }
def LazyAlarmsWrongFalsely : Prop := lazyAlarmsRow.holds Try.pinned (OpenSpec.ofChange lazyAlarmsWrong)

/-- 'bafflelaw19.LazyNever': WHATEVER THE INPUT: true; the input reads as it did. -/
def lazyNeverSpec : ChangeSpec := { name := "lazyNever", fn := fun _ => fun
  | [d1, d2] => { results := [.lit (.bool true)], args := [d1, d2] }
  | _ => none }
def lazyNeverRow : OpenClaim := { program := "ytnockichpnaoeaa", sum := "afabda3f64bcf66012b0423ab53a8879e1d017409902ce666d94943abaeae4f0", func := "baffle/bafflelaw19.LazyNever", spec := "lazyNever", unfollowed := true, recurses := true, apart := false }
def LazyNeverSaid : Prop := lazyNeverRow.holds Try.pinned (OpenSpec.ofChange lazyNeverSpec)

/-- ITS FALSE NEIGHBOUR: 'it returns false'. Refute it at one input. -/
def lazyNeverWrong : ChangeSpec := { name := "lazyNever", fn := fun _ => fun
  | [d1, d2] => { results := [.lit (.bool false)], args := [d1, d2] }
  | _ => none }
def LazyNeverWrongFalsely : Prop := lazyNeverRow.holds Try.pinned (OpenSpec.ofChange lazyNeverWrong)

/-- 'bafflelaw19.LazyExact': WHATEVER THE INPUT: true; the input reads as it did. -/
def lazyExactSpec : ChangeSpec := { name := "lazyExact", fn := fun _ => fun
  | [d1, d2] => { results := [.lit (.bool true)], args := [d1, d2] }
  | _ => none }
def lazyExactRow : OpenClaim := { program := "ytnockichpnaoeaa", sum := "afabda3f64bcf66012b0423ab53a8879e1d017409902ce666d94943abaeae4f0", func := "baffle/bafflelaw19.LazyExact", spec := "lazyExact", inPlace := ["slices.overlaps[baffle/queue.Timer]"], unfollowed := true, recurses := true, apart := false }
def LazyExactSaid : Prop := lazyExactRow.holds Try.pinned (OpenSpec.ofChange lazyExactSpec)

/-- ITS FALSE NEIGHBOUR: 'it returns false'. Refute it at one input. -/
def lazyExactWrong : ChangeSpec := { name := "lazyExact", fn := fun _ => fun
  | [d1, d2] => { results := [.lit (.bool false)], args := [d1, d2] }
  | _ => none }
def LazyExactWrongFalsely : Prop := lazyExactRow.holds Try.pinned (OpenSpec.ofChange lazyExactWrong)

/- THE SECOND FORM. 'bulk': how many values and letters a reading holds, each counted each time it is reached (what is shared counts as often as it is met; a slice's spare places count too). A statement '..UptoSaid' is the law's where the arguments, and the package variables that the reading takes, are together of bulk at most 1048576: NARROWER than '..Said'. Prove '..Said' where nothing that the law and all that it calls make is longer than what came in: it says more and counts as full. Else prove '..UptoSaid'. A law counts once. -/
mutual
def uptoBulk {H : Type} : DataW H → Nat
  | .lit (.string bytes) => bytes.length + 1
  | .lit _ => 1
  | .nil => 1
  | .ptr d => uptoBulk d + 1
  | .slice elems spare => uptoBulkAll elems + uptoBulkAll spare + 1
  | .agg parts => uptoBulkAll parts + 1
  | .iface _ d => uptoBulk d + 1
  | .map entries => uptoBulkEntries entries + 1
  | .held _ => 1
def uptoBulkAll {H : Type} : List (DataW H) → Nat
  | [] => 0
  | d :: r => uptoBulk d + uptoBulkAll r
def uptoBulkEntries {H : Type} : List (Lit × DataW H) → Nat
  | [] => 0
  | x :: r => uptoBulkEntry x + uptoBulkEntries r
def uptoBulkEntry {H : Type} : Lit × DataW H → Nat
  | (.string bytes, d) => bytes.length + uptoBulk d + 1
  | (_, d) => uptoBulk d + 1
 end
def uptoSmall : (H : Type) → List (DataW H) → Bool := fun _ ds => decide (uptoBulkAll ds ≤ 1048576)
def OpenSpec.upto (s : _root_.Go.ChangeSpec) : _root_.Go.OpenSpec := { _root_.Go.OpenSpec.ofChange s with cond := some uptoSmall }

/-- 'bafflelaw19.LazyQuiet', WHERE WHAT IT READS IS OF BULK AT MOST 1048576: true; the input reads as it did. -/
def lazyQuietUptoRow : OpenClaim := { program := "ytnockichpnaoeaa", sum := "afabda3f64bcf66012b0423ab53a8879e1d017409902ce666d94943abaeae4f0", func := "baffle/bafflelaw19.LazyQuiet", spec := "lazyQuiet", unfollowed := true, recurses := true, apart := false, narrowed := true }
def LazyQuietUptoSaid : Prop := lazyQuietUptoRow.holds Try.pinned (OpenSpec.upto lazyQuietSpec)

/-- 'bafflelaw19.LazyWrong', WHERE WHAT IT READS IS OF BULK AT MOST 1048576: true; the input reads as it did. -/
def lazyWrongUptoRow : OpenClaim := { program := "ytnockichpnaoeaa", sum := "afabda3f64bcf66012b0423ab53a8879e1d017409902ce666d94943abaeae4f0", func := "baffle/bafflelaw19.LazyWrong", spec := "lazyWrong", unfollowed := true, recurses := true, apart := false, narrowed := true }
def LazyWrongUptoSaid : Prop := lazyWrongUptoRow.holds Try.pinned (OpenSpec.upto lazyWrongSpec)

/-- 'bafflelaw19.LazyTells', WHERE WHAT IT READS IS OF BULK AT MOST 1048576: true; the input reads as it did. -/
def lazyTellsUptoRow : OpenClaim := { program := "ytnockichpnaoeaa", sum := "afabda3f64bcf66012b0423ab53a8879e1d017409902ce666d94943abaeae4f0", func := "baffle/bafflelaw19.LazyTells", spec := "lazyTells", unfollowed := true, recurses := true, apart := false, narrowed := true }
def LazyTellsUptoSaid : Prop := lazyTellsUptoRow.holds Try.pinned (OpenSpec.upto lazyTellsSpec)

/-- 'bafflelaw19.LazySmall', WHERE WHAT IT READS IS OF BULK AT MOST 1048576: true; the input reads as it did. -/
def lazySmallUptoRow : OpenClaim := { program := "ytnockichpnaoeaa", sum := "afabda3f64bcf66012b0423ab53a8879e1d017409902ce666d94943abaeae4f0", func := "baffle/bafflelaw19.LazySmall", spec := "lazySmall", unfollowed := true, recurses := true, apart := false, narrowed := true }
def LazySmallUptoSaid : Prop := lazySmallUptoRow.holds Try.pinned (OpenSpec.upto lazySmallSpec)

/-- 'bafflelaw19.LazyAlarms', WHERE WHAT IT READS IS OF BULK AT MOST 1048576: true; the input reads as it did. -/
def lazyAlarmsUptoRow : OpenClaim := { program := "ytnockichpnaoeaa", sum := "afabda3f64bcf66012b0423ab53a8879e1d017409902ce666d94943abaeae4f0", func := "baffle/bafflelaw19.LazyAlarms", spec := "lazyAlarms", unfollowed := true, recurses := true, apart := false, narrowed := true }
def LazyAlarmsUptoSaid : Prop := lazyAlarmsUptoRow.holds Try.pinned (OpenSpec.upto lazyAlarmsSpec)

/-- 'bafflelaw19.LazyNever', WHERE WHAT IT READS IS OF BULK AT MOST 1048576: true; the input reads as it did. -/
def lazyNeverUptoRow : OpenClaim := { program := "ytnockichpnaoeaa", sum := "afabda3f64bcf66012b0423ab53a8879e1d017409902ce666d94943abaeae4f0", func := "baffle/bafflelaw19.LazyNever", spec := "lazyNever", unfollowed := true, recurses := true, apart := false, narrowed := true }
def LazyNeverUptoSaid : Prop := lazyNeverUptoRow.holds Try.pinned (OpenSpec.upto lazyNeverSpec)

/-- 'bafflelaw19.LazyExact', WHERE WHAT IT READS IS OF BULK AT MOST 1048576: true; the input reads as it did. -/
def lazyExactUptoRow : OpenClaim := { program := "ytnockichpnaoeaa", sum := "afabda3f64bcf66012b0423ab53a8879e1d017409902ce666d94943abaeae4f0", func := "baffle/bafflelaw19.LazyExact", spec := "lazyExact", inPlace := ["slices.overlaps[baffle/queue.Timer]"], unfollowed := true, recurses := true, apart := false, narrowed := true }
def LazyExactUptoSaid : Prop := lazyExactUptoRow.holds Try.pinned (OpenSpec.upto lazyExactSpec)

end Rows
end Go.Proofs.Ytnockichpnaoeaa
