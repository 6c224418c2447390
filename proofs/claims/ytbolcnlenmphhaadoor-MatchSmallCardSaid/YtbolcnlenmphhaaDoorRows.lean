/-
  NARROWER THAN 'FOR EVERY INPUT', by the rows' own cells (each row's printed sentence says how): MatchTells: laid · MatchOrder: laid · MatchOne: laid · MatchMeets: laid · MatchWithin: laid · MatchPairs: laid · MatchSmall: laid · MatchWrong: laid.
  DERIVED. THE GIVEN ROWS OF THIS SEAT. 8 by the template 'for every input the law returns true; each argument reads behind the call as it read before'; 0 by the template 'total and deterministic' (their statements: YtbolcnlenmphhaaDoorTotals.lean).
  GIVEN WITH THE SEED: the statements are not yours to turn. If you find one false, say at which input.
  Laid BY PROGRAM, IN A SANDBOX (cutbox-rows.mjs): the forced cells as the released guide's own fill.sh prints them over the translation 8eca0207b145c303… (all of the seat's roots in one cut). By AI agents, Wed Nov 11 2026. No macro, syntax, notation, axiom, sorry.
-/
import Derived.Test.YtbolcnlenmphhaaDoorChecked
import GoSem.Claim
import GoSem.ClaimJoined
import GoSem.ClaimMapViews
import Derived.JoinedTies
import Derived.KernelRfl
namespace Go.Proofs.YtbolcnlenmphhaaDoor
/- THE CELL 'sum', in the pinned program and in every row, IS THE sha256 OF THE DUMP (.gsa) THAT YtbolcnlenmphhaaDoorProg.lean LOADS. Nothing in Lean hashes anything: it is a label: what it is worth is what the hold of that sum in a sandbox is worth. -/
noncomputable def Tryd.pinned : Pinned := { name := "ytbolcnlenmphhaadoor", sum := "8eca0207b145c303ad526b4d105507cad07fffba3a32504e926f099450e063c7", checked := Tryd.checked }
namespace Rows
def none {H : Type} : Left H := { results := [], args := [] }

/- WHAT THE LISTED PACKAGE-LEVEL VARIABLES READ AS WHEN THE CALL BEGINS. Each datum BY PROGRAM (the guide's laid-datum.mjs) off the statement by which the dump's own 'gosem.cut.vars' lays the variable. In a bare row this is a premise. The card (YtbolcnlenmphhaaDoorCards.lean) ties it to the program's text. -/
def laid_baffle_bafflelaw26_full {H : Type} : DataW H := .agg [.lit (.int .u16 0), .lit (.int .u16 65535)]

/-- 'bafflelaw26.MatchTells': WHATEVER THE INPUT: true; the input reads as it did. -/
def matchTellsSpec : ChangeSpec := { name := "matchTells", fn := fun _ => fun
  | [d1, d2, d3] => { results := [.lit (.bool true)], args := [d1, d2, d3] }
  | _ => none }
def matchTellsRow : OpenClaim := { program := "ytbolcnlenmphhaadoor", sum := "8eca0207b145c303ad526b4d105507cad07fffba3a32504e926f099450e063c7", func := "baffle/bafflelaw26.MatchTells", spec := "matchTells", unfollowed := true, recurses := true, named := ["baffle/bafflelaw26.full"], apart := false, laid := [("baffle/bafflelaw26.full", laid_baffle_bafflelaw26_full)] }
def MatchTellsSaid : Prop := matchTellsRow.holds Tryd.pinned (OpenSpec.ofChange matchTellsSpec)

/-- ITS FALSE NEIGHBOUR: 'it returns false'. Refute it at one input. -/
def matchTellsWrong : ChangeSpec := { name := "matchTells", fn := fun _ => fun
  | [d1, d2, d3] => { results := [.lit (.bool false)], args := [d1, d2, d3] }
  | _ => none }
def MatchTellsWrongFalsely : Prop := matchTellsRow.holds Tryd.pinned (OpenSpec.ofChange matchTellsWrong)

/-- 'bafflelaw26.MatchOrder': WHATEVER THE INPUT: true; the input reads as it did. -/
def matchOrderSpec : ChangeSpec := { name := "matchOrder", fn := fun _ => fun
  | [d1, d2, d3] => { results := [.lit (.bool true)], args := [d1, d2, d3] }
  | _ => none }
def matchOrderRow : OpenClaim := { program := "ytbolcnlenmphhaadoor", sum := "8eca0207b145c303ad526b4d105507cad07fffba3a32504e926f099450e063c7", func := "baffle/bafflelaw26.MatchOrder", spec := "matchOrder", unfollowed := true, recurses := true, named := ["baffle/bafflelaw26.full"], apart := false, laid := [("baffle/bafflelaw26.full", laid_baffle_bafflelaw26_full)] }
def MatchOrderSaid : Prop := matchOrderRow.holds Tryd.pinned (OpenSpec.ofChange matchOrderSpec)

/-- ITS FALSE NEIGHBOUR: 'it returns false'. Refute it at one input. -/
def matchOrderWrong : ChangeSpec := { name := "matchOrder", fn := fun _ => fun
  | [d1, d2, d3] => { results := [.lit (.bool false)], args := [d1, d2, d3] }
  | _ => none }
def MatchOrderWrongFalsely : Prop := matchOrderRow.holds Tryd.pinned (OpenSpec.ofChange matchOrderWrong)

/-- 'bafflelaw26.MatchOne': WHATEVER THE INPUT: true; the input reads as it did. -/
def matchOneSpec : ChangeSpec := { name := "matchOne", fn := fun _ => fun
  | [d1, d2, d3] => { results := [.lit (.bool true)], args := [d1, d2, d3] }
  | _ => none }
def matchOneRow : OpenClaim := { program := "ytbolcnlenmphhaadoor", sum := "8eca0207b145c303ad526b4d105507cad07fffba3a32504e926f099450e063c7", func := "baffle/bafflelaw26.MatchOne", spec := "matchOne", unfollowed := true, recurses := true, named := ["baffle/bafflelaw26.full"], apart := false, laid := [("baffle/bafflelaw26.full", laid_baffle_bafflelaw26_full)] }
def MatchOneSaid : Prop := matchOneRow.holds Tryd.pinned (OpenSpec.ofChange matchOneSpec)

/-- ITS FALSE NEIGHBOUR: 'it returns false'. Refute it at one input. -/
def matchOneWrong : ChangeSpec := { name := "matchOne", fn := fun _ => fun
  | [d1, d2, d3] => { results := [.lit (.bool false)], args := [d1, d2, d3] }
  | _ => none }
def MatchOneWrongFalsely : Prop := matchOneRow.holds Tryd.pinned (OpenSpec.ofChange matchOneWrong)

/-- 'bafflelaw26.MatchMeets': WHATEVER THE INPUT: true; the input reads as it did. -/
def matchMeetsSpec : ChangeSpec := { name := "matchMeets", fn := fun _ => fun
  | [d1, d2, d3] => { results := [.lit (.bool true)], args := [d1, d2, d3] }
  | _ => none }
def matchMeetsRow : OpenClaim := { program := "ytbolcnlenmphhaadoor", sum := "8eca0207b145c303ad526b4d105507cad07fffba3a32504e926f099450e063c7", func := "baffle/bafflelaw26.MatchMeets", spec := "matchMeets", unfollowed := true, recurses := true, named := ["baffle/bafflelaw26.full"], apart := false, laid := [("baffle/bafflelaw26.full", laid_baffle_bafflelaw26_full)] }
def MatchMeetsSaid : Prop := matchMeetsRow.holds Tryd.pinned (OpenSpec.ofChange matchMeetsSpec)

/-- ITS FALSE NEIGHBOUR: 'it returns false'. Refute it at one input. -/
def matchMeetsWrong : ChangeSpec := { name := "matchMeets", fn := fun _ => fun
  | [d1, d2, d3] => { results := [.lit (.bool false)], args := [d1, d2, d3] }
  | _ => none }
def MatchMeetsWrongFalsely : Prop := matchMeetsRow.holds Tryd.pinned (OpenSpec.ofChange matchMeetsWrong)

/-- 'bafflelaw26.MatchWithin': WHATEVER THE INPUT: true; the input reads as it did. -/
def matchWithinSpec : ChangeSpec := { name := "matchWithin", fn := fun _ => fun
  | [d1, d2] => { results := [.lit (.bool true)], args := [d1, d2] }
  | _ => none }
def matchWithinRow : OpenClaim := { program := "ytbolcnlenmphhaadoor", sum := "8eca0207b145c303ad526b4d105507cad07fffba3a32504e926f099450e063c7", func := "baffle/bafflelaw26.MatchWithin", spec := "matchWithin", unfollowed := true, recurses := true, named := ["baffle/bafflelaw26.full"], apart := false, laid := [("baffle/bafflelaw26.full", laid_baffle_bafflelaw26_full)] }
def MatchWithinSaid : Prop := matchWithinRow.holds Tryd.pinned (OpenSpec.ofChange matchWithinSpec)

/-- ITS FALSE NEIGHBOUR: 'it returns false'. Refute it at one input. -/
def matchWithinWrong : ChangeSpec := { name := "matchWithin", fn := fun _ => fun
  | [d1, d2] => { results := [.lit (.bool false)], args := [d1, d2] }
  | _ => none }
def MatchWithinWrongFalsely : Prop := matchWithinRow.holds Tryd.pinned (OpenSpec.ofChange matchWithinWrong)

/-- 'bafflelaw26.MatchPairs': WHATEVER THE INPUT: true; the input reads as it did. -/
def matchPairsSpec : ChangeSpec := { name := "matchPairs", fn := fun _ => fun
  | [d1, d2] => { results := [.lit (.bool true)], args := [d1, d2] }
  | _ => none }
def matchPairsRow : OpenClaim := { program := "ytbolcnlenmphhaadoor", sum := "8eca0207b145c303ad526b4d105507cad07fffba3a32504e926f099450e063c7", func := "baffle/bafflelaw26.MatchPairs", spec := "matchPairs", unfollowed := true, recurses := true, named := ["baffle/bafflelaw26.full"], apart := false, laid := [("baffle/bafflelaw26.full", laid_baffle_bafflelaw26_full)] }
def MatchPairsSaid : Prop := matchPairsRow.holds Tryd.pinned (OpenSpec.ofChange matchPairsSpec)

/-- ITS FALSE NEIGHBOUR: 'it returns false'. Refute it at one input. -/
def matchPairsWrong : ChangeSpec := { name := "matchPairs", fn := fun _ => fun
  | [d1, d2] => { results := [.lit (.bool false)], args := [d1, d2] }
  | _ => none }
def MatchPairsWrongFalsely : Prop := matchPairsRow.holds Tryd.pinned (OpenSpec.ofChange matchPairsWrong)

/-- 'bafflelaw26.MatchSmall': WHATEVER THE INPUT: true; the input reads as it did. -/
def matchSmallSpec : ChangeSpec := { name := "matchSmall", fn := fun _ => fun
  | [] => { results := [.lit (.bool true)], args := [] }
  | _ => none }
def matchSmallRow : OpenClaim := { program := "ytbolcnlenmphhaadoor", sum := "8eca0207b145c303ad526b4d105507cad07fffba3a32504e926f099450e063c7", func := "baffle/bafflelaw26.MatchSmall", spec := "matchSmall", unfollowed := true, recurses := true, named := ["baffle/bafflelaw26.full"], apart := false, laid := [("baffle/bafflelaw26.full", laid_baffle_bafflelaw26_full)] }
def MatchSmallSaid : Prop := matchSmallRow.holds Tryd.pinned (OpenSpec.ofChange matchSmallSpec)

/-- ITS FALSE NEIGHBOUR: 'it returns false'. Refute it at one input. -/
def matchSmallWrong : ChangeSpec := { name := "matchSmall", fn := fun _ => fun
  | [] => { results := [.lit (.bool false)], args := [] }
  | _ => none }
def MatchSmallWrongFalsely : Prop := matchSmallRow.holds Tryd.pinned (OpenSpec.ofChange matchSmallWrong)

/-- 'bafflelaw26.MatchWrong': WHATEVER THE INPUT: true; the input reads as it did. -/
def matchWrongSpec : ChangeSpec := { name := "matchWrong", fn := fun _ => fun
  | [d1, d2, d3] => { results := [.lit (.bool true)], args := [d1, d2, d3] }
  | _ => none }
def matchWrongRow : OpenClaim := { program := "ytbolcnlenmphhaadoor", sum := "8eca0207b145c303ad526b4d105507cad07fffba3a32504e926f099450e063c7", func := "baffle/bafflelaw26.MatchWrong", spec := "matchWrong", unfollowed := true, recurses := true, named := ["baffle/bafflelaw26.full"], apart := false, laid := [("baffle/bafflelaw26.full", laid_baffle_bafflelaw26_full)] }
def MatchWrongSaid : Prop := matchWrongRow.holds Tryd.pinned (OpenSpec.ofChange matchWrongSpec)

/-- ITS FALSE NEIGHBOUR: 'it returns false'. Refute it at one input. -/
def matchWrongWrong : ChangeSpec := { name := "matchWrong", fn := fun _ => fun
  | [d1, d2, d3] => { results := [.lit (.bool false)], args := [d1, d2, d3] }
  | _ => none }
def MatchWrongWrongFalsely : Prop := matchWrongRow.holds Tryd.pinned (OpenSpec.ofChange matchWrongWrong)

/- THE SECOND FORM. 'bulk': how many values and letters a reading holds, each counted each time it is reached (what is shared counts as often as it is met; a slice's spare places count too). A statement '..UptoSaid' is the law's where the arguments, and the package variables that the reading takes, are together of bulk at most 1048576: NARROWER than '..Said'. Prove '..Said' where nothing that the law and all that it calls make is longer than what came in: it says more and counts as full. Else prove '..UptoSaid'. A law counts once. -/
mutual
def uptoBulk {H : Type} : DataW H → Nat
  | .lit (.string bytes) => bytes.length + 1
  | .lit _ => 1
  | .nil => 1
  | .ptr d => uptoBulk d + 1
  | .slice elems spare => uptoBulkAll elems + uptoBulkAll spare + 1
  | .agg parts => uptoBulkAll parts + 1
  | .iface _ d => uptoBulk d + 1
  | .map entries => uptoBulkEntries entries + 1
  | .held _ => 1
def uptoBulkAll {H : Type} : List (DataW H) → Nat
  | [] => 0
  | d :: r => uptoBulk d + uptoBulkAll r
def uptoBulkEntries {H : Type} : List (Lit × DataW H) → Nat
  | [] => 0
  | x :: r => uptoBulkEntry x + uptoBulkEntries r
def uptoBulkEntry {H : Type} : Lit × DataW H → Nat
  | (.string bytes, d) => bytes.length + uptoBulk d + 1
  | (_, d) => uptoBulk d + 1
 end
def uptoSmall : (H : Type) → List (DataW H) → Bool := fun _ ds => decide (uptoBulkAll ds ≤ 1048576)
def OpenSpec.upto (s : _root_.Go.ChangeSpec) : _root_.Go.OpenSpec := { _root_.Go.OpenSpec.ofChange s with cond := some uptoSmall }

/-- 'bafflelaw26.MatchTells', WHERE WHAT IT READS IS OF BULK AT MOST 1048576: true; the input reads as it did. -/
def matchTellsUptoRow : OpenClaim := { program := "ytbolcnlenmphhaadoor", sum := "8eca0207b145c303ad526b4d105507cad07fffba3a32504e926f099450e063c7", func := "baffle/bafflelaw26.MatchTells", spec := "matchTells", unfollowed := true, recurses := true, named := ["baffle/bafflelaw26.full"], apart := false, laid := [("baffle/bafflelaw26.full", laid_baffle_bafflelaw26_full)], narrowed := true }
def MatchTellsUptoSaid : Prop := matchTellsUptoRow.holds Tryd.pinned (OpenSpec.upto matchTellsSpec)

/-- 'bafflelaw26.MatchOrder', WHERE WHAT IT READS IS OF BULK AT MOST 1048576: true; the input reads as it did. -/
def matchOrderUptoRow : OpenClaim := { program := "ytbolcnlenmphhaadoor", sum := "8eca0207b145c303ad526b4d105507cad07fffba3a32504e926f099450e063c7", func := "baffle/bafflelaw26.MatchOrder", spec := "matchOrder", unfollowed := true, recurses := true, named := ["baffle/bafflelaw26.full"], apart := false, laid := [("baffle/bafflelaw26.full", laid_baffle_bafflelaw26_full)], narrowed := true }
def MatchOrderUptoSaid : Prop := matchOrderUptoRow.holds Tryd.pinned (OpenSpec.upto matchOrderSpec)

/-- 'bafflelaw26.MatchOne', WHERE WHAT IT READS IS OF BULK AT MOST 1048576: true; the input reads as it did. -/
def matchOneUptoRow : OpenClaim := { program := "ytbolcnlenmphhaadoor", sum := "8eca0207b145c303ad526b4d105507cad07fffba3a32504e926f099450e063c7", func := "baffle/bafflelaw26.MatchOne", spec := "matchOne", unfollowed := true, recurses := true, named := ["baffle/bafflelaw26.full"], apart := false, laid := [("baffle/bafflelaw26.full", laid_baffle_bafflelaw26_full)], narrowed := true }
def MatchOneUptoSaid : Prop := matchOneUptoRow.holds Tryd.pinned (OpenSpec.upto matchOneSpec)

/-- 'bafflelaw26.MatchMeets', WHERE WHAT IT READS IS OF BULK AT MOST 1048576: true; the input reads as it did. -/
def matchMeetsUptoRow : OpenClaim := { program := "ytbolcnlenmphhaadoor", sum := "8eca0207b145c303ad526b4d105507cad07fffba3a32504e926f099450e063c7", func := "baffle/bafflelaw26.MatchMeets", spec := "matchMeets", unfollowed := true, recurses := true, named := ["baffle/bafflelaw26.full"], apart := false, laid := [("baffle/bafflelaw26.full", laid_baffle_bafflelaw26_full)], narrowed := true }
def MatchMeetsUptoSaid : Prop := matchMeetsUptoRow.holds Tryd.pinned (OpenSpec.upto matchMeetsSpec)

/-- 'bafflelaw26.MatchWithin', WHERE WHAT IT READS IS OF BULK AT MOST 1048576: true; the input reads as it did. -/
def matchWithinUptoRow : OpenClaim := { program := "ytbolcnlenmphhaadoor", sum := "8eca0207b145c303ad526b4d105507cad07fffba3a32504e926f099450e063c7", func := "baffle/bafflelaw26.MatchWithin", spec := "matchWithin", unfollowed := true, recurses := true, named := ["baffle/bafflelaw26.full"], apart := false, laid := [("baffle/bafflelaw26.full", laid_baffle_bafflelaw26_full)], narrowed := true }
def MatchWithinUptoSaid : Prop := matchWithinUptoRow.holds Tryd.pinned (OpenSpec.upto matchWithinSpec)

/-- 'bafflelaw26.MatchPairs', WHERE WHAT IT READS IS OF BULK AT MOST 1048576: true; the input reads as it did. -/
def matchPairsUptoRow : OpenClaim := { program := "ytbolcnlenmphhaadoor", sum := "8eca0207b145c303ad526b4d105507cad07fffba3a32504e926f099450e063c7", func := "baffle/bafflelaw26.MatchPairs", spec := "matchPairs", unfollowed := true, recurses := true, named := ["baffle/bafflelaw26.full"], apart := false, laid := [("baffle/bafflelaw26.full", laid_baffle_bafflelaw26_full)], narrowed := true }
def MatchPairsUptoSaid : Prop := matchPairsUptoRow.holds Tryd.pinned (OpenSpec.upto matchPairsSpec)

/-- 'bafflelaw26.MatchSmall', WHERE WHAT IT READS IS OF BULK AT MOST 1048576: true; the input reads as it did. -/
def matchSmallUptoRow : OpenClaim := { program := "ytbolcnlenmphhaadoor", sum := "8eca0207b145c303ad526b4d105507cad07fffba3a32504e926f099450e063c7", func := "baffle/bafflelaw26.MatchSmall", spec := "matchSmall", unfollowed := true, recurses := true, named := ["baffle/bafflelaw26.full"], apart := false, laid := [("baffle/bafflelaw26.full", laid_baffle_bafflelaw26_full)], narrowed := true }
def MatchSmallUptoSaid : Prop := matchSmallUptoRow.holds Tryd.pinned (OpenSpec.upto matchSmallSpec)

/-- 'bafflelaw26.MatchWrong', WHERE WHAT IT READS IS OF BULK AT MOST 1048576: true; the input reads as it did. -/
def matchWrongUptoRow : OpenClaim := { program := "ytbolcnlenmphhaadoor", sum := "8eca0207b145c303ad526b4d105507cad07fffba3a32504e926f099450e063c7", func := "baffle/bafflelaw26.MatchWrong", spec := "matchWrong", unfollowed := true, recurses := true, named := ["baffle/bafflelaw26.full"], apart := false, laid := [("baffle/bafflelaw26.full", laid_baffle_bafflelaw26_full)], narrowed := true }
def MatchWrongUptoSaid : Prop := matchWrongUptoRow.holds Tryd.pinned (OpenSpec.upto matchWrongSpec)

end Rows
end Go.Proofs.YtbolcnlenmphhaaDoor
