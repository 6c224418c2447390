/-
  DERIVED. GIVEN WITH THE SEED: THE CARDS: each row of YtbolcnlenmphhaaDoorRows.lean that lists a variable, with what it lists TIED to the program's text (the seventh form; the later family's looks); each row that meets fmt, with fmt's text TOLD by the authors' own Lean function (tested against real Go, not proved from fmt's source: count such statements apart). THE CARD IS WHAT COUNTS. Prove the row's statement (the work); the ties are given (YtbolcnlenmphhaaDoorTie.lean); close each card by the builder's one call (the guide's Derived/Test/ToyasCard.lean, 'card_holds'). Laid BY PROGRAM, IN A SANDBOX (cutbox-door.mjs). By AI agents, Wed Nov 11 2026. No macro, syntax, notation, axiom, sorry.
-/
import Derived.Test.YtbolcnlenmphhaaDoorRows
import GoSem.ClaimSeven
namespace Go.Proofs.YtbolcnlenmphhaaDoor
namespace Rows

/-- THE TIED CARD OF 'bafflelaw26.MatchTells'. -/
def matchTellsCard : Claim7 := { stood := { row := matchTellsRow, standIns := [], harness := (true, "aab662e4f8585f970daa9fb74f29544b4137c66ee3a4a693fafbd6b99318668e"), looks := false }, kinds := [], alts := [], laidByText := true, laidKinds := [.data], laidTests := true, laidLooks := .later }
def MatchTellsCardSaid : Prop := Claim7.holds Tryd.pinned (.plain (OpenSpec.ofChange matchTellsSpec)) matchTellsCard

/-- THE TIED CARD OF 'bafflelaw26.MatchOrder'. -/
def matchOrderCard : Claim7 := { stood := { row := matchOrderRow, standIns := [], harness := (true, "aab662e4f8585f970daa9fb74f29544b4137c66ee3a4a693fafbd6b99318668e"), looks := false }, kinds := [], alts := [], laidByText := true, laidKinds := [.data], laidTests := true, laidLooks := .later }
def MatchOrderCardSaid : Prop := Claim7.holds Tryd.pinned (.plain (OpenSpec.ofChange matchOrderSpec)) matchOrderCard

/-- THE TIED CARD OF 'bafflelaw26.MatchOne'. -/
def matchOneCard : Claim7 := { stood := { row := matchOneRow, standIns := [], harness := (true, "aab662e4f8585f970daa9fb74f29544b4137c66ee3a4a693fafbd6b99318668e"), looks := false }, kinds := [], alts := [], laidByText := true, laidKinds := [.data], laidTests := true, laidLooks := .later }
def MatchOneCardSaid : Prop := Claim7.holds Tryd.pinned (.plain (OpenSpec.ofChange matchOneSpec)) matchOneCard

/-- THE TIED CARD OF 'bafflelaw26.MatchMeets'. -/
def matchMeetsCard : Claim7 := { stood := { row := matchMeetsRow, standIns := [], harness := (true, "aab662e4f8585f970daa9fb74f29544b4137c66ee3a4a693fafbd6b99318668e"), looks := false }, kinds := [], alts := [], laidByText := true, laidKinds := [.data], laidTests := true, laidLooks := .later }
def MatchMeetsCardSaid : Prop := Claim7.holds Tryd.pinned (.plain (OpenSpec.ofChange matchMeetsSpec)) matchMeetsCard

/-- THE TIED CARD OF 'bafflelaw26.MatchWithin'. -/
def matchWithinCard : Claim7 := { stood := { row := matchWithinRow, standIns := [], harness := (true, "aab662e4f8585f970daa9fb74f29544b4137c66ee3a4a693fafbd6b99318668e"), looks := false }, kinds := [], alts := [], laidByText := true, laidKinds := [.data], laidTests := true, laidLooks := .later }
def MatchWithinCardSaid : Prop := Claim7.holds Tryd.pinned (.plain (OpenSpec.ofChange matchWithinSpec)) matchWithinCard

/-- THE TIED CARD OF 'bafflelaw26.MatchPairs'. -/
def matchPairsCard : Claim7 := { stood := { row := matchPairsRow, standIns := [], harness := (true, "aab662e4f8585f970daa9fb74f29544b4137c66ee3a4a693fafbd6b99318668e"), looks := false }, kinds := [], alts := [], laidByText := true, laidKinds := [.data], laidTests := true, laidLooks := .later }
def MatchPairsCardSaid : Prop := Claim7.holds Tryd.pinned (.plain (OpenSpec.ofChange matchPairsSpec)) matchPairsCard

/-- THE TIED CARD OF 'bafflelaw26.MatchSmall'. -/
def matchSmallCard : Claim7 := { stood := { row := matchSmallRow, standIns := [], harness := (true, "aab662e4f8585f970daa9fb74f29544b4137c66ee3a4a693fafbd6b99318668e"), looks := false }, kinds := [], alts := [], laidByText := true, laidKinds := [.data], laidTests := true, laidLooks := .later }
def MatchSmallCardSaid : Prop := Claim7.holds Tryd.pinned (.plain (OpenSpec.ofChange matchSmallSpec)) matchSmallCard

/-- THE TIED CARD OF 'bafflelaw26.MatchWrong'. -/
def matchWrongCard : Claim7 := { stood := { row := matchWrongRow, standIns := [], harness := (true, "aab662e4f8585f970daa9fb74f29544b4137c66ee3a4a693fafbd6b99318668e"), looks := false }, kinds := [], alts := [], laidByText := true, laidKinds := [.data], laidTests := true, laidLooks := .later }
def MatchWrongCardSaid : Prop := Claim7.holds Tryd.pinned (.plain (OpenSpec.ofChange matchWrongSpec)) matchWrongCard

/-- THE SECOND FORM's CARD OF 'bafflelaw26.MatchTells'. -/
def matchTellsUptoCard : Claim7 := { stood := { row := matchTellsUptoRow, standIns := [], harness := (true, "aab662e4f8585f970daa9fb74f29544b4137c66ee3a4a693fafbd6b99318668e"), looks := false }, kinds := [], alts := [], laidByText := true, laidKinds := [.data], laidTests := true, laidLooks := .later }
def MatchTellsUptoCardSaid : Prop := Claim7.holds Tryd.pinned (.plain (OpenSpec.upto matchTellsSpec)) matchTellsUptoCard

/-- THE SECOND FORM's CARD OF 'bafflelaw26.MatchOrder'. -/
def matchOrderUptoCard : Claim7 := { stood := { row := matchOrderUptoRow, standIns := [], harness := (true, "aab662e4f8585f970daa9fb74f29544b4137c66ee3a4a693fafbd6b99318668e"), looks := false }, kinds := [], alts := [], laidByText := true, laidKinds := [.data], laidTests := true, laidLooks := .later }
def MatchOrderUptoCardSaid : Prop := Claim7.holds Tryd.pinned (.plain (OpenSpec.upto matchOrderSpec)) matchOrderUptoCard

/-- THE SECOND FORM's CARD OF 'bafflelaw26.MatchOne'. -/
def matchOneUptoCard : Claim7 := { stood := { row := matchOneUptoRow, standIns := [], harness := (true, "aab662e4f8585f970daa9fb74f29544b4137c66ee3a4a693fafbd6b99318668e"), looks := false }, kinds := [], alts := [], laidByText := true, laidKinds := [.data], laidTests := true, laidLooks := .later }
def MatchOneUptoCardSaid : Prop := Claim7.holds Tryd.pinned (.plain (OpenSpec.upto matchOneSpec)) matchOneUptoCard

/-- THE SECOND FORM's CARD OF 'bafflelaw26.MatchMeets'. -/
def matchMeetsUptoCard : Claim7 := { stood := { row := matchMeetsUptoRow, standIns := [], harness := (true, "aab662e4f8585f970daa9fb74f29544b4137c66ee3a4a693fafbd6b99318668e"), looks := false }, kinds := [], alts := [], laidByText := true, laidKinds := [.data], laidTests := true, laidLooks := .later }
def MatchMeetsUptoCardSaid : Prop := Claim7.holds Tryd.pinned (.plain (OpenSpec.upto matchMeetsSpec)) matchMeetsUptoCard

/-- THE SECOND FORM's CARD OF 'bafflelaw26.MatchWithin'. -/
def matchWithinUptoCard : Claim7 := { stood := { row := matchWithinUptoRow, standIns := [], harness := (true, "aab662e4f8585f970daa9fb74f29544b4137c66ee3a4a693fafbd6b99318668e"), looks := false }, kinds := [], alts := [], laidByText := true, laidKinds := [.data], laidTests := true, laidLooks := .later }
def MatchWithinUptoCardSaid : Prop := Claim7.holds Tryd.pinned (.plain (OpenSpec.upto matchWithinSpec)) matchWithinUptoCard

/-- THE SECOND FORM's CARD OF 'bafflelaw26.MatchPairs'. -/
def matchPairsUptoCard : Claim7 := { stood := { row := matchPairsUptoRow, standIns := [], harness := (true, "aab662e4f8585f970daa9fb74f29544b4137c66ee3a4a693fafbd6b99318668e"), looks := false }, kinds := [], alts := [], laidByText := true, laidKinds := [.data], laidTests := true, laidLooks := .later }
def MatchPairsUptoCardSaid : Prop := Claim7.holds Tryd.pinned (.plain (OpenSpec.upto matchPairsSpec)) matchPairsUptoCard

/-- THE SECOND FORM's CARD OF 'bafflelaw26.MatchSmall'. -/
def matchSmallUptoCard : Claim7 := { stood := { row := matchSmallUptoRow, standIns := [], harness := (true, "aab662e4f8585f970daa9fb74f29544b4137c66ee3a4a693fafbd6b99318668e"), looks := false }, kinds := [], alts := [], laidByText := true, laidKinds := [.data], laidTests := true, laidLooks := .later }
def MatchSmallUptoCardSaid : Prop := Claim7.holds Tryd.pinned (.plain (OpenSpec.upto matchSmallSpec)) matchSmallUptoCard

/-- THE SECOND FORM's CARD OF 'bafflelaw26.MatchWrong'. -/
def matchWrongUptoCard : Claim7 := { stood := { row := matchWrongUptoRow, standIns := [], harness := (true, "aab662e4f8585f970daa9fb74f29544b4137c66ee3a4a693fafbd6b99318668e"), looks := false }, kinds := [], alts := [], laidByText := true, laidKinds := [.data], laidTests := true, laidLooks := .later }
def MatchWrongUptoCardSaid : Prop := Claim7.holds Tryd.pinned (.plain (OpenSpec.upto matchWrongSpec)) matchWrongUptoCard
end Rows
end Go.Proofs.YtbolcnlenmphhaaDoor
