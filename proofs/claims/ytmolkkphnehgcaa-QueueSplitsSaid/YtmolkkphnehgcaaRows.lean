/-
  No cell of these rows narrows 'for every input' (looked for: loops, veiled, ifaces, maps, wideKeys, modest, calm, conditions, laid).
  DERIVED. THE GIVEN ROWS OF THIS SEAT. 9 by the template 'for every input the law returns true; each argument reads behind the call as it read before'; 0 by the template 'total and deterministic' (their statements: YtmolkkphnehgcaaTotals.lean).
  GIVEN WITH THE SEED: the statements are not yours to turn. If you find one false, say at which input.
  Laid BY PROGRAM, IN A SANDBOX (cutbox-rows.mjs): the forced cells as the released guide's own fill.sh prints them over the translation f617a0f413dd94ff… (all of the seat's roots in one cut). By AI agents, Wed Nov 11 2026. No macro, syntax, notation, axiom, sorry.
-/
import Derived.Test.YtmolkkphnehgcaaChecked
import GoSem.Claim
import GoSem.ClaimJoined
import GoSem.ClaimMapViews
import Derived.JoinedTies
import Derived.KernelRfl
namespace Go.Proofs.Ytmolkkphnehgcaa
/- THE CELL 'sum', in the pinned program and in every row, IS THE sha256 OF THE DUMP (.gsa) THAT YtmolkkphnehgcaaProg.lean LOADS. Nothing in Lean hashes anything: it is a label: what it is worth is what the hold of that sum in a sandbox is worth. -/
noncomputable def Try.pinned : Pinned := { name := "ytmolkkphnehgcaa", sum := "f617a0f413dd94ff118914449e28c3895b9bb28dd65e3c0b8ce28e377cabf49f", checked := Try.checked }
namespace Rows
def none {H : Type} : Left H := { results := [], args := [] }

/-- 'bafflelaw17.QueueDue': WHATEVER THE INPUT: true; the input reads as it did. -/
def queueDueSpec : ChangeSpec := { name := "queueDue", fn := fun _ => fun
  | [d1, d2, d3] => { results := [.lit (.bool true)], args := [d1, d2, d3] }
  | _ => none }
def queueDueRow : OpenClaim := { program := "ytmolkkphnehgcaa", sum := "f617a0f413dd94ff118914449e28c3895b9bb28dd65e3c0b8ce28e377cabf49f", func := "baffle/bafflelaw17.QueueDue", spec := "queueDue", inPlace := ["slices.overlaps[baffle/queue.Timer]"], unfollowed := true, recurses := true, apart := false }
def QueueDueSaid : Prop := queueDueRow.holds Try.pinned (OpenSpec.ofChange queueDueSpec)

/-- ITS FALSE NEIGHBOUR: 'it returns false'. Refute it at one input. -/
def queueDueWrong : ChangeSpec := { name := "queueDue", fn := fun _ => fun
  | [d1, d2, d3] => { results := [.lit (.bool false)], args := [d1, d2, d3] }
  | _ => none }
def QueueDueWrongFalsely : Prop := queueDueRow.holds Try.pinned (OpenSpec.ofChange queueDueWrong)

/-- 'bafflelaw17.QueueAnyOrder': WHATEVER THE INPUT: true; the input reads as it did. -/
def queueAnyOrderSpec : ChangeSpec := { name := "queueAnyOrder", fn := fun _ => fun
  | [d1, d2, d3] => { results := [.lit (.bool true)], args := [d1, d2, d3] }
  | _ => none }
def queueAnyOrderRow : OpenClaim := { program := "ytmolkkphnehgcaa", sum := "f617a0f413dd94ff118914449e28c3895b9bb28dd65e3c0b8ce28e377cabf49f", func := "baffle/bafflelaw17.QueueAnyOrder", spec := "queueAnyOrder", inPlace := ["slices.overlaps[baffle/queue.Timer]"], unfollowed := true, recurses := true, apart := false }
def QueueAnyOrderSaid : Prop := queueAnyOrderRow.holds Try.pinned (OpenSpec.ofChange queueAnyOrderSpec)

/-- ITS FALSE NEIGHBOUR: 'it returns false'. Refute it at one input. -/
def queueAnyOrderWrong : ChangeSpec := { name := "queueAnyOrder", fn := fun _ => fun
  | [d1, d2, d3] => { results := [.lit (.bool false)], args := [d1, d2, d3] }
  | _ => none }
def QueueAnyOrderWrongFalsely : Prop := queueAnyOrderRow.holds Try.pinned (OpenSpec.ofChange queueAnyOrderWrong)

/-- 'bafflelaw17.QueueFirst': WHATEVER THE INPUT: true; the input reads as it did. -/
def queueFirstSpec : ChangeSpec := { name := "queueFirst", fn := fun _ => fun
  | [d1, d2] => { results := [.lit (.bool true)], args := [d1, d2] }
  | _ => none }
def queueFirstRow : OpenClaim := { program := "ytmolkkphnehgcaa", sum := "f617a0f413dd94ff118914449e28c3895b9bb28dd65e3c0b8ce28e377cabf49f", func := "baffle/bafflelaw17.QueueFirst", spec := "queueFirst", inPlace := ["slices.overlaps[baffle/queue.Timer]"], unfollowed := true, recurses := true, apart := false }
def QueueFirstSaid : Prop := queueFirstRow.holds Try.pinned (OpenSpec.ofChange queueFirstSpec)

/-- ITS FALSE NEIGHBOUR: 'it returns false'. Refute it at one input. -/
def queueFirstWrong : ChangeSpec := { name := "queueFirst", fn := fun _ => fun
  | [d1, d2] => { results := [.lit (.bool false)], args := [d1, d2] }
  | _ => none }
def QueueFirstWrongFalsely : Prop := queueFirstRow.holds Try.pinned (OpenSpec.ofChange queueFirstWrong)

/-- 'bafflelaw17.QueueWrong': WHATEVER THE INPUT: true; the input reads as it did. -/
def queueWrongSpec : ChangeSpec := { name := "queueWrong", fn := fun _ => fun
  | [d1, d2, d3] => { results := [.lit (.bool true)], args := [d1, d2, d3] }
  | _ => none }
def queueWrongRow : OpenClaim := { program := "ytmolkkphnehgcaa", sum := "f617a0f413dd94ff118914449e28c3895b9bb28dd65e3c0b8ce28e377cabf49f", func := "baffle/bafflelaw17.QueueWrong", spec := "queueWrong", inPlace := ["slices.overlaps[baffle/queue.Timer]"], unfollowed := true, recurses := true, apart := false }
def QueueWrongSaid : Prop := queueWrongRow.holds Try.pinned (OpenSpec.ofChange queueWrongSpec)

/-- ITS FALSE NEIGHBOUR: 'it returns false'. Refute it at one input. -/
def queueWrongWrong : ChangeSpec := { name := "queueWrong", fn := fun _ => fun
  | [d1, d2, d3] => { results := [.lit (.bool false)], args := [d1, d2, d3] }
  | _ => none }
def QueueWrongWrongFalsely : Prop := queueWrongRow.holds Try.pinned (OpenSpec.ofChange queueWrongWrong)

/-- 'bafflelaw17.QueueOrdered': WHATEVER THE INPUT: true; the input reads as it did. -/
def queueOrderedSpec : ChangeSpec := { name := "queueOrdered", fn := fun _ => fun
  | [d1, d2, d3] => { results := [.lit (.bool true)], args := [d1, d2, d3] }
  | _ => none }
def queueOrderedRow : OpenClaim := { program := "ytmolkkphnehgcaa", sum := "f617a0f413dd94ff118914449e28c3895b9bb28dd65e3c0b8ce28e377cabf49f", func := "baffle/bafflelaw17.QueueOrdered", spec := "queueOrdered", inPlace := ["slices.overlaps[baffle/queue.Timer]"], unfollowed := true, recurses := true, apart := false }
def QueueOrderedSaid : Prop := queueOrderedRow.holds Try.pinned (OpenSpec.ofChange queueOrderedSpec)

/-- ITS FALSE NEIGHBOUR: 'it returns false'. Refute it at one input. -/
def queueOrderedWrong : ChangeSpec := { name := "queueOrdered", fn := fun _ => fun
  | [d1, d2, d3] => { results := [.lit (.bool false)], args := [d1, d2, d3] }
  | _ => none }
def QueueOrderedWrongFalsely : Prop := queueOrderedRow.holds Try.pinned (OpenSpec.ofChange queueOrderedWrong)

/-- 'bafflelaw17.QueueEnd': WHATEVER THE INPUT: true; the input reads as it did. -/
def queueEndSpec : ChangeSpec := { name := "queueEnd", fn := fun _ => fun
  | [d1, d2, d3] => { results := [.lit (.bool true)], args := [d1, d2, d3] }
  | _ => none }
def queueEndRow : OpenClaim := { program := "ytmolkkphnehgcaa", sum := "f617a0f413dd94ff118914449e28c3895b9bb28dd65e3c0b8ce28e377cabf49f", func := "baffle/bafflelaw17.QueueEnd", spec := "queueEnd", inPlace := ["slices.overlaps[baffle/queue.Timer]"], unfollowed := true, recurses := true, apart := false }
def QueueEndSaid : Prop := queueEndRow.holds Try.pinned (OpenSpec.ofChange queueEndSpec)

/-- ITS FALSE NEIGHBOUR: 'it returns false'. Refute it at one input. -/
def queueEndWrong : ChangeSpec := { name := "queueEnd", fn := fun _ => fun
  | [d1, d2, d3] => { results := [.lit (.bool false)], args := [d1, d2, d3] }
  | _ => none }
def QueueEndWrongFalsely : Prop := queueEndRow.holds Try.pinned (OpenSpec.ofChange queueEndWrong)

/-- 'bafflelaw17.QueueTells': WHATEVER THE INPUT: true; the input reads as it did. -/
def queueTellsSpec : ChangeSpec := { name := "queueTells", fn := fun _ => fun
  | [d1, d2] => { results := [.lit (.bool true)], args := [d1, d2] }
  | _ => none }
def queueTellsRow : OpenClaim := { program := "ytmolkkphnehgcaa", sum := "f617a0f413dd94ff118914449e28c3895b9bb28dd65e3c0b8ce28e377cabf49f", func := "baffle/bafflelaw17.QueueTells", spec := "queueTells", inPlace := ["slices.overlaps[baffle/queue.Timer]"], unfollowed := true, recurses := true, apart := false }
def QueueTellsSaid : Prop := queueTellsRow.holds Try.pinned (OpenSpec.ofChange queueTellsSpec)

/-- ITS FALSE NEIGHBOUR: 'it returns false'. Refute it at one input. -/
def queueTellsWrong : ChangeSpec := { name := "queueTells", fn := fun _ => fun
  | [d1, d2] => { results := [.lit (.bool false)], args := [d1, d2] }
  | _ => none }
def QueueTellsWrongFalsely : Prop := queueTellsRow.holds Try.pinned (OpenSpec.ofChange queueTellsWrong)

/-- 'bafflelaw17.QueueSmall': WHATEVER THE INPUT: true; the input reads as it did. -/
def queueSmallSpec : ChangeSpec := { name := "queueSmall", fn := fun _ => fun
  | [] => { results := [.lit (.bool true)], args := [] }
  | _ => none }
def queueSmallRow : OpenClaim := { program := "ytmolkkphnehgcaa", sum := "f617a0f413dd94ff118914449e28c3895b9bb28dd65e3c0b8ce28e377cabf49f", func := "baffle/bafflelaw17.QueueSmall", spec := "queueSmall", inPlace := ["slices.overlaps[baffle/queue.Timer]"], unfollowed := true, recurses := true, apart := false }
def QueueSmallSaid : Prop := queueSmallRow.holds Try.pinned (OpenSpec.ofChange queueSmallSpec)

/-- ITS FALSE NEIGHBOUR: 'it returns false'. Refute it at one input. -/
def queueSmallWrong : ChangeSpec := { name := "queueSmall", fn := fun _ => fun
  | [] => { results := [.lit (.bool false)], args := [] }
  | _ => none }
def QueueSmallWrongFalsely : Prop := queueSmallRow.holds Try.pinned (OpenSpec.ofChange queueSmallWrong)

/-- 'bafflelaw17.QueueSplits': WHATEVER THE INPUT: true; the input reads as it did. -/
def queueSplitsSpec : ChangeSpec := { name := "queueSplits", fn := fun _ => fun
  | [d1, d2, d3, d4] => { results := [.lit (.bool true)], args := [d1, d2, d3, d4] }
  | _ => none }
def queueSplitsRow : OpenClaim := { program := "ytmolkkphnehgcaa", sum := "f617a0f413dd94ff118914449e28c3895b9bb28dd65e3c0b8ce28e377cabf49f", func := "baffle/bafflelaw17.QueueSplits", spec := "queueSplits", inPlace := ["slices.overlaps[baffle/queue.Timer]"], unfollowed := true, recurses := true, apart := false }
def QueueSplitsSaid : Prop := queueSplitsRow.holds Try.pinned (OpenSpec.ofChange queueSplitsSpec)

/-- ITS FALSE NEIGHBOUR: 'it returns false'. Refute it at one input. -/
def queueSplitsWrong : ChangeSpec := { name := "queueSplits", fn := fun _ => fun
  | [d1, d2, d3, d4] => { results := [.lit (.bool false)], args := [d1, d2, d3, d4] }
  | _ => none }
def QueueSplitsWrongFalsely : Prop := queueSplitsRow.holds Try.pinned (OpenSpec.ofChange queueSplitsWrong)

/- THE SECOND FORM. 'bulk': how many values and letters a reading holds, each counted each time it is reached (what is shared counts as often as it is met; a slice's spare places count too). A statement '..UptoSaid' is the law's where the arguments, and the package variables that the reading takes, are together of bulk at most 1048576: NARROWER than '..Said'. Prove '..Said' where nothing that the law and all that it calls make is longer than what came in: it says more and counts as full. Else prove '..UptoSaid'. A law counts once. -/
mutual
def uptoBulk {H : Type} : DataW H → Nat
  | .lit (.string bytes) => bytes.length + 1
  | .lit _ => 1
  | .nil => 1
  | .ptr d => uptoBulk d + 1
  | .slice elems spare => uptoBulkAll elems + uptoBulkAll spare + 1
  | .agg parts => uptoBulkAll parts + 1
  | .iface _ d => uptoBulk d + 1
  | .map entries => uptoBulkEntries entries + 1
  | .held _ => 1
def uptoBulkAll {H : Type} : List (DataW H) → Nat
  | [] => 0
  | d :: r => uptoBulk d + uptoBulkAll r
def uptoBulkEntries {H : Type} : List (Lit × DataW H) → Nat
  | [] => 0
  | x :: r => uptoBulkEntry x + uptoBulkEntries r
def uptoBulkEntry {H : Type} : Lit × DataW H → Nat
  | (.string bytes, d) => bytes.length + uptoBulk d + 1
  | (_, d) => uptoBulk d + 1
 end
def uptoSmall : (H : Type) → List (DataW H) → Bool := fun _ ds => decide (uptoBulkAll ds ≤ 1048576)
def OpenSpec.upto (s : _root_.Go.ChangeSpec) : _root_.Go.OpenSpec := { _root_.Go.OpenSpec.ofChange s with cond := some uptoSmall }

/-- 'bafflelaw17.QueueDue', WHERE WHAT IT READS IS OF BULK AT MOST 1048576: true; the input reads as it did. -/
def queueDueUptoRow : OpenClaim := { program := "ytmolkkphnehgcaa", sum := "f617a0f413dd94ff118914449e28c3895b9bb28dd65e3c0b8ce28e377cabf49f", func := "baffle/bafflelaw17.QueueDue", spec := "queueDue", inPlace := ["slices.overlaps[baffle/queue.Timer]"], unfollowed := true, recurses := true, apart := false, narrowed := true }
def QueueDueUptoSaid : Prop := queueDueUptoRow.holds Try.pinned (OpenSpec.upto queueDueSpec)

/-- 'bafflelaw17.QueueAnyOrder', WHERE WHAT IT READS IS OF BULK AT MOST 1048576: true; the input reads as it did. -/
def queueAnyOrderUptoRow : OpenClaim := { program := "ytmolkkphnehgcaa", sum := "f617a0f413dd94ff118914449e28c3895b9bb28dd65e3c0b8ce28e377cabf49f", func := "baffle/bafflelaw17.QueueAnyOrder", spec := "queueAnyOrder", inPlace := ["slices.overlaps[baffle/queue.Timer]"], unfollowed := true, recurses := true, apart := false, narrowed := true }
def QueueAnyOrderUptoSaid : Prop := queueAnyOrderUptoRow.holds Try.pinned (OpenSpec.upto queueAnyOrderSpec)

/-- 'bafflelaw17.QueueFirst', WHERE WHAT IT READS IS OF BULK AT MOST 1048576: true; the input reads as it did. -/
def queueFirstUptoRow : OpenClaim := { program := "ytmolkkphnehgcaa", sum := "f617a0f413dd94ff118914449e28c3895b9bb28dd65e3c0b8ce28e377cabf49f", func := "baffle/bafflelaw17.QueueFirst", spec := "queueFirst", inPlace := ["slices.overlaps[baffle/queue.Timer]"], unfollowed := true, recurses := true, apart := false, narrowed := true }
def QueueFirstUptoSaid : Prop := queueFirstUptoRow.holds Try.pinned (OpenSpec.upto queueFirstSpec)

/-- 'bafflelaw17.QueueWrong', WHERE WHAT IT READS IS OF BULK AT MOST 1048576: true; the input reads as it did. -/
def queueWrongUptoRow : OpenClaim := { program := "ytmolkkphnehgcaa", sum := "f617a0f413dd94ff118914449e28c3895b9bb28dd65e3c0b8ce28e377cabf49f", func := "baffle/bafflelaw17.QueueWrong", spec := "queueWrong", inPlace := ["slices.overlaps[baffle/queue.Timer]"], unfollowed := true, recurses := true, apart := false, narrowed := true }
def QueueWrongUptoSaid : Prop := queueWrongUptoRow.holds Try.pinned (OpenSpec.upto queueWrongSpec)

/-- 'bafflelaw17.QueueOrdered', WHERE WHAT IT READS IS OF BULK AT MOST 1048576: true; the input reads as it did. -/
def queueOrderedUptoRow : OpenClaim := { program := "ytmolkkphnehgcaa", sum := "f617a0f413dd94ff118914449e28c3895b9bb28dd65e3c0b8ce28e377cabf49f", func := "baffle/bafflelaw17.QueueOrdered", spec := "queueOrdered", inPlace := ["slices.overlaps[baffle/queue.Timer]"], unfollowed := true, recurses := true, apart := false, narrowed := true }
def QueueOrderedUptoSaid : Prop := queueOrderedUptoRow.holds Try.pinned (OpenSpec.upto queueOrderedSpec)

/-- 'bafflelaw17.QueueEnd', WHERE WHAT IT READS IS OF BULK AT MOST 1048576: true; the input reads as it did. -/
def queueEndUptoRow : OpenClaim := { program := "ytmolkkphnehgcaa", sum := "f617a0f413dd94ff118914449e28c3895b9bb28dd65e3c0b8ce28e377cabf49f", func := "baffle/bafflelaw17.QueueEnd", spec := "queueEnd", inPlace := ["slices.overlaps[baffle/queue.Timer]"], unfollowed := true, recurses := true, apart := false, narrowed := true }
def QueueEndUptoSaid : Prop := queueEndUptoRow.holds Try.pinned (OpenSpec.upto queueEndSpec)

/-- 'bafflelaw17.QueueTells', WHERE WHAT IT READS IS OF BULK AT MOST 1048576: true; the input reads as it did. -/
def queueTellsUptoRow : OpenClaim := { program := "ytmolkkphnehgcaa", sum := "f617a0f413dd94ff118914449e28c3895b9bb28dd65e3c0b8ce28e377cabf49f", func := "baffle/bafflelaw17.QueueTells", spec := "queueTells", inPlace := ["slices.overlaps[baffle/queue.Timer]"], unfollowed := true, recurses := true, apart := false, narrowed := true }
def QueueTellsUptoSaid : Prop := queueTellsUptoRow.holds Try.pinned (OpenSpec.upto queueTellsSpec)

/-- 'bafflelaw17.QueueSmall', WHERE WHAT IT READS IS OF BULK AT MOST 1048576: true; the input reads as it did. -/
def queueSmallUptoRow : OpenClaim := { program := "ytmolkkphnehgcaa", sum := "f617a0f413dd94ff118914449e28c3895b9bb28dd65e3c0b8ce28e377cabf49f", func := "baffle/bafflelaw17.QueueSmall", spec := "queueSmall", inPlace := ["slices.overlaps[baffle/queue.Timer]"], unfollowed := true, recurses := true, apart := false, narrowed := true }
def QueueSmallUptoSaid : Prop := queueSmallUptoRow.holds Try.pinned (OpenSpec.upto queueSmallSpec)

/-- 'bafflelaw17.QueueSplits', WHERE WHAT IT READS IS OF BULK AT MOST 1048576: true; the input reads as it did. -/
def queueSplitsUptoRow : OpenClaim := { program := "ytmolkkphnehgcaa", sum := "f617a0f413dd94ff118914449e28c3895b9bb28dd65e3c0b8ce28e377cabf49f", func := "baffle/bafflelaw17.QueueSplits", spec := "queueSplits", inPlace := ["slices.overlaps[baffle/queue.Timer]"], unfollowed := true, recurses := true, apart := false, narrowed := true }
def QueueSplitsUptoSaid : Prop := queueSplitsUptoRow.holds Try.pinned (OpenSpec.upto queueSplitsSpec)

end Rows
end Go.Proofs.Ytmolkkphnehgcaa
