/-
  No cell of these rows narrows 'for every input' (looked for: loops, veiled, ifaces, maps, wideKeys, modest, calm, conditions, laid).
  DERIVED. THE GIVEN ROWS OF THIS SEAT. 10 by the template 'for every input the law returns true; each argument reads behind the call as it read before'; 0 by the template 'total and deterministic' (their statements: YtfhheeoejncfgaaTotals.lean).
  GIVEN WITH THE SEED: the statements are not yours to turn. If you find one false, say at which input.
  Laid BY PROGRAM, IN A SANDBOX (cutbox-rows.mjs): the forced cells as the released guide's own fill.sh prints them over the translation bf3f763910b0d512… (all of the seat's roots in one cut). By AI agents, Wed Nov 11 2026. No macro, syntax, notation, axiom, sorry.
-/
import Derived.Test.YtfhheeoejncfgaaChecked
import GoSem.Claim
import GoSem.ClaimJoined
import GoSem.ClaimMapViews
import Derived.JoinedTies
import Derived.KernelRfl
namespace Go.Proofs.Ytfhheeoejncfgaa
/- THE CELL 'sum', in the pinned program and in every row, IS THE sha256 OF THE DUMP (.gsa) THAT YtfhheeoejncfgaaProg.lean LOADS. Nothing in Lean hashes anything: it is a label: what it is worth is what the hold of that sum in a sandbox is worth. -/
noncomputable def Try.pinned : Pinned := { name := "ytfhheeoejncfgaa", sum := "bf3f763910b0d51237480db73858d04c968cf53c8eab3cd27f7086f3a11b00a6", checked := Try.checked }
namespace Rows
def none {H : Type} : Left H := { results := [], args := [] }

/-- 'bafflelaw18.WheelLong': WHATEVER THE INPUT: true; the input reads as it did. -/
def wheelLongSpec : ChangeSpec := { name := "wheelLong", fn := fun _ => fun
  | [] => { results := [.lit (.bool true)], args := [] }
  | _ => none }
def wheelLongRow : OpenClaim := { program := "ytfhheeoejncfgaa", sum := "bf3f763910b0d51237480db73858d04c968cf53c8eab3cd27f7086f3a11b00a6", func := "baffle/bafflelaw18.WheelLong", spec := "wheelLong", apart := false }
def WheelLongSaid : Prop := wheelLongRow.holds Try.pinned (OpenSpec.ofChange wheelLongSpec)

/-- ITS FALSE NEIGHBOUR: 'it returns false'. Refute it at one input. -/
def wheelLongWrong : ChangeSpec := { name := "wheelLong", fn := fun _ => fun
  | [] => { results := [.lit (.bool false)], args := [] }
  | _ => none }
def WheelLongWrongFalsely : Prop := wheelLongRow.holds Try.pinned (OpenSpec.ofChange wheelLongWrong)

/-- 'bafflelaw18.WheelCheap': WHATEVER THE INPUT: true; the input reads as it did. -/
def wheelCheapSpec : ChangeSpec := { name := "wheelCheap", fn := fun _ => fun
  | [d1, d2] => { results := [.lit (.bool true)], args := [d1, d2] }
  | _ => none }
def wheelCheapRow : OpenClaim := { program := "ytfhheeoejncfgaa", sum := "bf3f763910b0d51237480db73858d04c968cf53c8eab3cd27f7086f3a11b00a6", func := "baffle/bafflelaw18.WheelCheap", spec := "wheelCheap", unfollowed := true, recurses := true, apart := false }
def WheelCheapSaid : Prop := wheelCheapRow.holds Try.pinned (OpenSpec.ofChange wheelCheapSpec)

/-- ITS FALSE NEIGHBOUR: 'it returns false'. Refute it at one input. -/
def wheelCheapWrong : ChangeSpec := { name := "wheelCheap", fn := fun _ => fun
  | [d1, d2] => { results := [.lit (.bool false)], args := [d1, d2] }
  | _ => none }
def WheelCheapWrongFalsely : Prop := wheelCheapRow.holds Try.pinned (OpenSpec.ofChange wheelCheapWrong)

/-- 'bafflelaw18.WheelPlaces': WHATEVER THE INPUT: true; the input reads as it did. -/
def wheelPlacesSpec : ChangeSpec := { name := "wheelPlaces", fn := fun _ => fun
  | [d1, d2] => { results := [.lit (.bool true)], args := [d1, d2] }
  | _ => none }
def wheelPlacesRow : OpenClaim := { program := "ytfhheeoejncfgaa", sum := "bf3f763910b0d51237480db73858d04c968cf53c8eab3cd27f7086f3a11b00a6", func := "baffle/bafflelaw18.WheelPlaces", spec := "wheelPlaces", unfollowed := true, recurses := true, apart := false }
def WheelPlacesSaid : Prop := wheelPlacesRow.holds Try.pinned (OpenSpec.ofChange wheelPlacesSpec)

/-- ITS FALSE NEIGHBOUR: 'it returns false'. Refute it at one input. -/
def wheelPlacesWrong : ChangeSpec := { name := "wheelPlaces", fn := fun _ => fun
  | [d1, d2] => { results := [.lit (.bool false)], args := [d1, d2] }
  | _ => none }
def WheelPlacesWrongFalsely : Prop := wheelPlacesRow.holds Try.pinned (OpenSpec.ofChange wheelPlacesWrong)

/-- 'bafflelaw18.WheelFree': WHATEVER THE INPUT: true; the input reads as it did. -/
def wheelFreeSpec : ChangeSpec := { name := "wheelFree", fn := fun _ => fun
  | [d1, d2] => { results := [.lit (.bool true)], args := [d1, d2] }
  | _ => none }
def wheelFreeRow : OpenClaim := { program := "ytfhheeoejncfgaa", sum := "bf3f763910b0d51237480db73858d04c968cf53c8eab3cd27f7086f3a11b00a6", func := "baffle/bafflelaw18.WheelFree", spec := "wheelFree", unfollowed := true, recurses := true, apart := false }
def WheelFreeSaid : Prop := wheelFreeRow.holds Try.pinned (OpenSpec.ofChange wheelFreeSpec)

/-- ITS FALSE NEIGHBOUR: 'it returns false'. Refute it at one input. -/
def wheelFreeWrong : ChangeSpec := { name := "wheelFree", fn := fun _ => fun
  | [d1, d2] => { results := [.lit (.bool false)], args := [d1, d2] }
  | _ => none }
def WheelFreeWrongFalsely : Prop := wheelFreeRow.holds Try.pinned (OpenSpec.ofChange wheelFreeWrong)

/-- 'bafflelaw18.WheelTells': WHATEVER THE INPUT: true; the input reads as it did. -/
def wheelTellsSpec : ChangeSpec := { name := "wheelTells", fn := fun _ => fun
  | [d1, d2, d3, d4] => { results := [.lit (.bool true)], args := [d1, d2, d3, d4] }
  | _ => none }
def wheelTellsRow : OpenClaim := { program := "ytfhheeoejncfgaa", sum := "bf3f763910b0d51237480db73858d04c968cf53c8eab3cd27f7086f3a11b00a6", func := "baffle/bafflelaw18.WheelTells", spec := "wheelTells", unfollowed := true, recurses := true, apart := false }
def WheelTellsSaid : Prop := wheelTellsRow.holds Try.pinned (OpenSpec.ofChange wheelTellsSpec)

/-- ITS FALSE NEIGHBOUR: 'it returns false'. Refute it at one input. -/
def wheelTellsWrong : ChangeSpec := { name := "wheelTells", fn := fun _ => fun
  | [d1, d2, d3, d4] => { results := [.lit (.bool false)], args := [d1, d2, d3, d4] }
  | _ => none }
def WheelTellsWrongFalsely : Prop := wheelTellsRow.holds Try.pinned (OpenSpec.ofChange wheelTellsWrong)

/-- 'bafflelaw18.WheelSmall': WHATEVER THE INPUT: true; the input reads as it did. -/
def wheelSmallSpec : ChangeSpec := { name := "wheelSmall", fn := fun _ => fun
  | [] => { results := [.lit (.bool true)], args := [] }
  | _ => none }
def wheelSmallRow : OpenClaim := { program := "ytfhheeoejncfgaa", sum := "bf3f763910b0d51237480db73858d04c968cf53c8eab3cd27f7086f3a11b00a6", func := "baffle/bafflelaw18.WheelSmall", spec := "wheelSmall", unfollowed := true, recurses := true, apart := false }
def WheelSmallSaid : Prop := wheelSmallRow.holds Try.pinned (OpenSpec.ofChange wheelSmallSpec)

/-- ITS FALSE NEIGHBOUR: 'it returns false'. Refute it at one input. -/
def wheelSmallWrong : ChangeSpec := { name := "wheelSmall", fn := fun _ => fun
  | [] => { results := [.lit (.bool false)], args := [] }
  | _ => none }
def WheelSmallWrongFalsely : Prop := wheelSmallRow.holds Try.pinned (OpenSpec.ofChange wheelSmallWrong)

/-- 'bafflelaw18.WheelWrong': WHATEVER THE INPUT: true; the input reads as it did. -/
def wheelWrongSpec : ChangeSpec := { name := "wheelWrong", fn := fun _ => fun
  | [d1, d2, d3] => { results := [.lit (.bool true)], args := [d1, d2, d3] }
  | _ => none }
def wheelWrongRow : OpenClaim := { program := "ytfhheeoejncfgaa", sum := "bf3f763910b0d51237480db73858d04c968cf53c8eab3cd27f7086f3a11b00a6", func := "baffle/bafflelaw18.WheelWrong", spec := "wheelWrong", unfollowed := true, recurses := true, apart := false }
def WheelWrongSaid : Prop := wheelWrongRow.holds Try.pinned (OpenSpec.ofChange wheelWrongSpec)

/-- ITS FALSE NEIGHBOUR: 'it returns false'. Refute it at one input. -/
def wheelWrongWrong : ChangeSpec := { name := "wheelWrong", fn := fun _ => fun
  | [d1, d2, d3] => { results := [.lit (.bool false)], args := [d1, d2, d3] }
  | _ => none }
def WheelWrongWrongFalsely : Prop := wheelWrongRow.holds Try.pinned (OpenSpec.ofChange wheelWrongWrong)

/-- 'bafflelaw18.WheelAnew': WHATEVER THE INPUT: true; the input reads as it did. -/
def wheelAnewSpec : ChangeSpec := { name := "wheelAnew", fn := fun _ => fun
  | [d1, d2, d3, d4] => { results := [.lit (.bool true)], args := [d1, d2, d3, d4] }
  | _ => none }
def wheelAnewRow : OpenClaim := { program := "ytfhheeoejncfgaa", sum := "bf3f763910b0d51237480db73858d04c968cf53c8eab3cd27f7086f3a11b00a6", func := "baffle/bafflelaw18.WheelAnew", spec := "wheelAnew", unfollowed := true, recurses := true, apart := false }
def WheelAnewSaid : Prop := wheelAnewRow.holds Try.pinned (OpenSpec.ofChange wheelAnewSpec)

/-- ITS FALSE NEIGHBOUR: 'it returns false'. Refute it at one input. -/
def wheelAnewWrong : ChangeSpec := { name := "wheelAnew", fn := fun _ => fun
  | [d1, d2, d3, d4] => { results := [.lit (.bool false)], args := [d1, d2, d3, d4] }
  | _ => none }
def WheelAnewWrongFalsely : Prop := wheelAnewRow.holds Try.pinned (OpenSpec.ofChange wheelAnewWrong)

/-- 'bafflelaw18.WheelOrder': WHATEVER THE INPUT: true; the input reads as it did. -/
def wheelOrderSpec : ChangeSpec := { name := "wheelOrder", fn := fun _ => fun
  | [d1, d2, d3] => { results := [.lit (.bool true)], args := [d1, d2, d3] }
  | _ => none }
def wheelOrderRow : OpenClaim := { program := "ytfhheeoejncfgaa", sum := "bf3f763910b0d51237480db73858d04c968cf53c8eab3cd27f7086f3a11b00a6", func := "baffle/bafflelaw18.WheelOrder", spec := "wheelOrder", unfollowed := true, recurses := true, apart := false }
def WheelOrderSaid : Prop := wheelOrderRow.holds Try.pinned (OpenSpec.ofChange wheelOrderSpec)

/-- ITS FALSE NEIGHBOUR: 'it returns false'. Refute it at one input. -/
def wheelOrderWrong : ChangeSpec := { name := "wheelOrder", fn := fun _ => fun
  | [d1, d2, d3] => { results := [.lit (.bool false)], args := [d1, d2, d3] }
  | _ => none }
def WheelOrderWrongFalsely : Prop := wheelOrderRow.holds Try.pinned (OpenSpec.ofChange wheelOrderWrong)

/-- 'bafflelaw18.WheelExact': WHATEVER THE INPUT: true; the input reads as it did. -/
def wheelExactSpec : ChangeSpec := { name := "wheelExact", fn := fun _ => fun
  | [d1, d2] => { results := [.lit (.bool true)], args := [d1, d2] }
  | _ => none }
def wheelExactRow : OpenClaim := { program := "ytfhheeoejncfgaa", sum := "bf3f763910b0d51237480db73858d04c968cf53c8eab3cd27f7086f3a11b00a6", func := "baffle/bafflelaw18.WheelExact", spec := "wheelExact", inPlace := ["slices.overlaps[baffle/queue.Timer]"], unfollowed := true, recurses := true, apart := false }
def WheelExactSaid : Prop := wheelExactRow.holds Try.pinned (OpenSpec.ofChange wheelExactSpec)

/-- ITS FALSE NEIGHBOUR: 'it returns false'. Refute it at one input. -/
def wheelExactWrong : ChangeSpec := { name := "wheelExact", fn := fun _ => fun
  | [d1, d2] => { results := [.lit (.bool false)], args := [d1, d2] }
  | _ => none }
def WheelExactWrongFalsely : Prop := wheelExactRow.holds Try.pinned (OpenSpec.ofChange wheelExactWrong)

/- THE SECOND FORM. 'bulk': how many values and letters a reading holds, each counted each time it is reached (what is shared counts as often as it is met; a slice's spare places count too). A statement '..UptoSaid' is the law's where the arguments, and the package variables that the reading takes, are together of bulk at most 1048576: NARROWER than '..Said'. Prove '..Said' where nothing that the law and all that it calls make is longer than what came in: it says more and counts as full. Else prove '..UptoSaid'. A law counts once. -/
mutual
def uptoBulk {H : Type} : DataW H → Nat
  | .lit (.string bytes) => bytes.length + 1
  | .lit _ => 1
  | .nil => 1
  | .ptr d => uptoBulk d + 1
  | .slice elems spare => uptoBulkAll elems + uptoBulkAll spare + 1
  | .agg parts => uptoBulkAll parts + 1
  | .iface _ d => uptoBulk d + 1
  | .map entries => uptoBulkEntries entries + 1
  | .held _ => 1
def uptoBulkAll {H : Type} : List (DataW H) → Nat
  | [] => 0
  | d :: r => uptoBulk d + uptoBulkAll r
def uptoBulkEntries {H : Type} : List (Lit × DataW H) → Nat
  | [] => 0
  | x :: r => uptoBulkEntry x + uptoBulkEntries r
def uptoBulkEntry {H : Type} : Lit × DataW H → Nat
  | (.string bytes, d) => bytes.length + uptoBulk d + 1
  | (_, d) => uptoBulk d + 1
 end
def uptoSmall : (H : Type) → List (DataW H) → Bool := fun _ ds => decide (uptoBulkAll ds ≤ 1048576)
def OpenSpec.upto (s : _root_.Go.ChangeSpec) : _root_.Go.OpenSpec := { _root_.Go.OpenSpec.ofChange s with cond := some uptoSmall }

/-- 'bafflelaw18.WheelLong', WHERE WHAT IT READS IS OF BULK AT MOST 1048576: true; the input reads as it did. -/
def wheelLongUptoRow : OpenClaim := { program := "ytfhheeoejncfgaa", sum := "bf3f763910b0d51237480db73858d04c968cf53c8eab3cd27f7086f3a11b00a6", func := "baffle/bafflelaw18.WheelLong", spec := "wheelLong", apart := false, narrowed := true }
def WheelLongUptoSaid : Prop := wheelLongUptoRow.holds Try.pinned (OpenSpec.upto wheelLongSpec)

/-- 'bafflelaw18.WheelCheap', WHERE WHAT IT READS IS OF BULK AT MOST 1048576: true; the input reads as it did. -/
def wheelCheapUptoRow : OpenClaim := { program := "ytfhheeoejncfgaa", sum := "bf3f763910b0d51237480db73858d04c968cf53c8eab3cd27f7086f3a11b00a6", func := "baffle/bafflelaw18.WheelCheap", spec := "wheelCheap", unfollowed := true, recurses := true, apart := false, narrowed := true }
def WheelCheapUptoSaid : Prop := wheelCheapUptoRow.holds Try.pinned (OpenSpec.upto wheelCheapSpec)

/-- 'bafflelaw18.WheelPlaces', WHERE WHAT IT READS IS OF BULK AT MOST 1048576: true; the input reads as it did. -/
def wheelPlacesUptoRow : OpenClaim := { program := "ytfhheeoejncfgaa", sum := "bf3f763910b0d51237480db73858d04c968cf53c8eab3cd27f7086f3a11b00a6", func := "baffle/bafflelaw18.WheelPlaces", spec := "wheelPlaces", unfollowed := true, recurses := true, apart := false, narrowed := true }
def WheelPlacesUptoSaid : Prop := wheelPlacesUptoRow.holds Try.pinned (OpenSpec.upto wheelPlacesSpec)

/-- 'bafflelaw18.WheelFree', WHERE WHAT IT READS IS OF BULK AT MOST 1048576: true; the input reads as it did. -/
def wheelFreeUptoRow : OpenClaim := { program := "ytfhheeoejncfgaa", sum := "bf3f763910b0d51237480db73858d04c968cf53c8eab3cd27f7086f3a11b00a6", func := "baffle/bafflelaw18.WheelFree", spec := "wheelFree", unfollowed := true, recurses := true, apart := false, narrowed := true }
def WheelFreeUptoSaid : Prop := wheelFreeUptoRow.holds Try.pinned (OpenSpec.upto wheelFreeSpec)

/-- 'bafflelaw18.WheelTells', WHERE WHAT IT READS IS OF BULK AT MOST 1048576: true; the input reads as it did. -/
def wheelTellsUptoRow : OpenClaim := { program := "ytfhheeoejncfgaa", sum := "bf3f763910b0d51237480db73858d04c968cf53c8eab3cd27f7086f3a11b00a6", func := "baffle/bafflelaw18.WheelTells", spec := "wheelTells", unfollowed := true, recurses := true, apart := false, narrowed := true }
def WheelTellsUptoSaid : Prop := wheelTellsUptoRow.holds Try.pinned (OpenSpec.upto wheelTellsSpec)

/-- 'bafflelaw18.WheelSmall', WHERE WHAT IT READS IS OF BULK AT MOST 1048576: true; the input reads as it did. -/
def wheelSmallUptoRow : OpenClaim := { program := "ytfhheeoejncfgaa", sum := "bf3f763910b0d51237480db73858d04c968cf53c8eab3cd27f7086f3a11b00a6", func := "baffle/bafflelaw18.WheelSmall", spec := "wheelSmall", unfollowed := true, recurses := true, apart := false, narrowed := true }
def WheelSmallUptoSaid : Prop := wheelSmallUptoRow.holds Try.pinned (OpenSpec.upto wheelSmallSpec)

/-- 'bafflelaw18.WheelWrong', WHERE WHAT IT READS IS OF BULK AT MOST 1048576: true; the input reads as it did. -/
def wheelWrongUptoRow : OpenClaim := { program := "ytfhheeoejncfgaa", sum := "bf3f763910b0d51237480db73858d04c968cf53c8eab3cd27f7086f3a11b00a6", func := "baffle/bafflelaw18.WheelWrong", spec := "wheelWrong", unfollowed := true, recurses := true, apart := false, narrowed := true }
def WheelWrongUptoSaid : Prop := wheelWrongUptoRow.holds Try.pinned (OpenSpec.upto wheelWrongSpec)

/-- 'bafflelaw18.WheelAnew', WHERE WHAT IT READS IS OF BULK AT MOST 1048576: true; the input reads as it did. -/
def wheelAnewUptoRow : OpenClaim := { program := "ytfhheeoejncfgaa", sum := "bf3f763910b0d51237480db73858d04c968cf53c8eab3cd27f7086f3a11b00a6", func := "baffle/bafflelaw18.WheelAnew", spec := "wheelAnew", unfollowed := true, recurses := true, apart := false, narrowed := true }
def WheelAnewUptoSaid : Prop := wheelAnewUptoRow.holds Try.pinned (OpenSpec.upto wheelAnewSpec)

/-- 'bafflelaw18.WheelOrder', WHERE WHAT IT READS IS OF BULK AT MOST 1048576: true; the input reads as it did. -/
def wheelOrderUptoRow : OpenClaim := { program := "ytfhheeoejncfgaa", sum := "bf3f763910b0d51237480db73858d04c968cf53c8eab3cd27f7086f3a11b00a6", func := "baffle/bafflelaw18.WheelOrder", spec := "wheelOrder", unfollowed := true, recurses := true, apart := false, narrowed := true }
def WheelOrderUptoSaid : Prop := wheelOrderUptoRow.holds Try.pinned (OpenSpec.upto wheelOrderSpec)

/-- 'bafflelaw18.WheelExact', WHERE WHAT IT READS IS OF BULK AT MOST 1048576: true; the input reads as it did. -/
def wheelExactUptoRow : OpenClaim := { program := "ytfhheeoejncfgaa", sum := "bf3f763910b0d51237480db73858d04c968cf53c8eab3cd27f7086f3a11b00a6", func := "baffle/bafflelaw18.WheelExact", spec := "wheelExact", inPlace := ["slices.overlaps[baffle/queue.Timer]"], unfollowed := true, recurses := true, apart := false, narrowed := true }
def WheelExactUptoSaid : Prop := wheelExactUptoRow.holds Try.pinned (OpenSpec.upto wheelExactSpec)

end Rows
end Go.Proofs.Ytfhheeoejncfgaa
