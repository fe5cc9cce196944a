/-
  DERIVED. GIVEN WITH THE SEED: THE CARDS: each row of YtmgkngdbphkmmaaDoorRows.lean that lists a variable, with what it lists TIED to the program's text (the seventh form; the later family's looks); each row that meets fmt, with fmt's text TOLD by the authors' own Lean function (tested against real Go, not proved from fmt's source: count such statements apart). THE CARD IS WHAT COUNTS. Prove the row's statement (the work); the ties are given (YtmgkngdbphkmmaaDoorTie.lean); close each card by the builder's one call (the guide's Derived/Test/ToyasCard.lean, 'card_holds'). Laid BY PROGRAM, IN A SANDBOX (cutbox-door.mjs). By AI agents, Wed Nov 11 2026. No macro, syntax, notation, axiom, sorry.
-/
import Derived.Test.YtmgkngdbphkmmaaDoorRows
import GoSem.ClaimSeven
namespace Go.Proofs.YtmgkngdbphkmmaaDoor
namespace Rows

/-- THE TIED CARD OF 'crossbarlaw02.InsnPuts'. -/
def insnPutsCard : Claim7 := { stood := { row := insnPutsRow, standIns := [], harness := (true, "81faf64c7f266ed93886e460c7e388c29e62d0421aeff5713cd26b5e3e7e0aef"), looks := false }, kinds := [], alts := [], laidByText := true, laidKinds := [.widerDeep, .data], laidTests := true, laidLooks := .later }
def InsnPutsCardSaid : Prop := Claim7.holds Tryd.pinned (.plain (OpenSpec.ofChange insnPutsSpec)) insnPutsCard

/-- THE TIED CARD OF 'crossbarlaw02.InsnGets'. -/
def insnGetsCard : Claim7 := { stood := { row := insnGetsRow, standIns := [], harness := (true, "81faf64c7f266ed93886e460c7e388c29e62d0421aeff5713cd26b5e3e7e0aef"), looks := false }, kinds := [], alts := [], laidByText := true, laidKinds := [.widerDeep, .data], laidTests := true, laidLooks := .later }
def InsnGetsCardSaid : Prop := Claim7.holds Tryd.pinned (.plain (OpenSpec.ofChange insnGetsSpec)) insnGetsCard

/-- THE TIED CARD OF 'crossbarlaw02.InsnBack'. -/
def insnBackCard : Claim7 := { stood := { row := insnBackRow, standIns := [], harness := (true, "81faf64c7f266ed93886e460c7e388c29e62d0421aeff5713cd26b5e3e7e0aef"), looks := false }, kinds := [], alts := [], laidByText := true, laidKinds := [.widerDeep, .data], laidTests := true, laidLooks := .later }
def InsnBackCardSaid : Prop := Claim7.holds Tryd.pinned (.plain (OpenSpec.ofChange insnBackSpec)) insnBackCard

/-- THE TIED CARD OF 'crossbarlaw02.InsnAgain'. -/
def insnAgainCard : Claim7 := { stood := { row := insnAgainRow, standIns := [], harness := (true, "81faf64c7f266ed93886e460c7e388c29e62d0421aeff5713cd26b5e3e7e0aef"), looks := false }, kinds := [], alts := [], laidByText := true, laidKinds := [.widerDeep, .data], laidTests := true, laidLooks := .later }
def InsnAgainCardSaid : Prop := Claim7.holds Tryd.pinned (.plain (OpenSpec.ofChange insnAgainSpec)) insnAgainCard

/-- THE TIED CARD OF 'crossbarlaw02.InsnKnown'. -/
def insnKnownCard : Claim7 := { stood := { row := insnKnownRow, standIns := [], harness := (true, "81faf64c7f266ed93886e460c7e388c29e62d0421aeff5713cd26b5e3e7e0aef"), looks := false }, kinds := [], alts := [], laidByText := true, laidKinds := [.widerDeep, .data], laidTests := true, laidLooks := .later }
def InsnKnownCardSaid : Prop := Claim7.holds Tryd.pinned (.plain (OpenSpec.ofChange insnKnownSpec)) insnKnownCard

/-- THE TIED CARD OF 'crossbarlaw06.FlowTells'. -/
def flowTellsCard : Claim7 := { stood := { row := flowTellsRow, standIns := [], harness := (true, "81faf64c7f266ed93886e460c7e388c29e62d0421aeff5713cd26b5e3e7e0aef"), looks := false }, kinds := [], alts := [], laidByText := true, laidKinds := [.widerDeep, .data], laidTests := true, laidLooks := .later }
def FlowTellsCardSaid : Prop := Claim7.holds Tryd.pinned (.plain (OpenSpec.ofChange flowTellsSpec)) flowTellsCard

/-- THE TIED CARD OF 'crossbarlaw06.FlowClosed'. -/
def flowClosedCard : Claim7 := { stood := { row := flowClosedRow, standIns := [], harness := (true, "81faf64c7f266ed93886e460c7e388c29e62d0421aeff5713cd26b5e3e7e0aef"), looks := false }, kinds := [], alts := [], laidByText := true, laidKinds := [.widerDeep, .data], laidTests := true, laidLooks := .later }
def FlowClosedCardSaid : Prop := Claim7.holds Tryd.pinned (.plain (OpenSpec.ofChange flowClosedSpec)) flowClosedCard

/-- THE TIED CARD OF 'crossbarlaw06.FlowPlaces'. -/
def flowPlacesCard : Claim7 := { stood := { row := flowPlacesRow, standIns := [], harness := (true, "81faf64c7f266ed93886e460c7e388c29e62d0421aeff5713cd26b5e3e7e0aef"), looks := false }, kinds := [], alts := [], laidByText := true, laidKinds := [.widerDeep, .data], laidTests := true, laidLooks := .later }
def FlowPlacesCardSaid : Prop := Claim7.holds Tryd.pinned (.plain (OpenSpec.ofChange flowPlacesSpec)) flowPlacesCard

/-- THE TIED CARD OF 'crossbarlaw06.FlowPads'. -/
def flowPadsCard : Claim7 := { stood := { row := flowPadsRow, standIns := [], harness := (true, "81faf64c7f266ed93886e460c7e388c29e62d0421aeff5713cd26b5e3e7e0aef"), looks := false }, kinds := [], alts := [], laidByText := true, laidKinds := [.widerDeep, .data], laidTests := true, laidLooks := .later }
def FlowPadsCardSaid : Prop := Claim7.holds Tryd.pinned (.plain (OpenSpec.ofChange flowPadsSpec)) flowPadsCard

/-- THE SECOND FORM's CARD OF 'crossbarlaw02.InsnPuts'. -/
def insnPutsUptoCard : Claim7 := { stood := { row := insnPutsUptoRow, standIns := [], harness := (true, "81faf64c7f266ed93886e460c7e388c29e62d0421aeff5713cd26b5e3e7e0aef"), looks := false }, kinds := [], alts := [], laidByText := true, laidKinds := [.widerDeep, .data], laidTests := true, laidLooks := .later }
def InsnPutsUptoCardSaid : Prop := Claim7.holds Tryd.pinned (.plain (OpenSpec.upto insnPutsSpec)) insnPutsUptoCard

/-- THE SECOND FORM's CARD OF 'crossbarlaw02.InsnGets'. -/
def insnGetsUptoCard : Claim7 := { stood := { row := insnGetsUptoRow, standIns := [], harness := (true, "81faf64c7f266ed93886e460c7e388c29e62d0421aeff5713cd26b5e3e7e0aef"), looks := false }, kinds := [], alts := [], laidByText := true, laidKinds := [.widerDeep, .data], laidTests := true, laidLooks := .later }
def InsnGetsUptoCardSaid : Prop := Claim7.holds Tryd.pinned (.plain (OpenSpec.upto insnGetsSpec)) insnGetsUptoCard

/-- THE SECOND FORM's CARD OF 'crossbarlaw02.InsnBack'. -/
def insnBackUptoCard : Claim7 := { stood := { row := insnBackUptoRow, standIns := [], harness := (true, "81faf64c7f266ed93886e460c7e388c29e62d0421aeff5713cd26b5e3e7e0aef"), looks := false }, kinds := [], alts := [], laidByText := true, laidKinds := [.widerDeep, .data], laidTests := true, laidLooks := .later }
def InsnBackUptoCardSaid : Prop := Claim7.holds Tryd.pinned (.plain (OpenSpec.upto insnBackSpec)) insnBackUptoCard

/-- THE SECOND FORM's CARD OF 'crossbarlaw02.InsnAgain'. -/
def insnAgainUptoCard : Claim7 := { stood := { row := insnAgainUptoRow, standIns := [], harness := (true, "81faf64c7f266ed93886e460c7e388c29e62d0421aeff5713cd26b5e3e7e0aef"), looks := false }, kinds := [], alts := [], laidByText := true, laidKinds := [.widerDeep, .data], laidTests := true, laidLooks := .later }
def InsnAgainUptoCardSaid : Prop := Claim7.holds Tryd.pinned (.plain (OpenSpec.upto insnAgainSpec)) insnAgainUptoCard

/-- THE SECOND FORM's CARD OF 'crossbarlaw02.InsnKnown'. -/
def insnKnownUptoCard : Claim7 := { stood := { row := insnKnownUptoRow, standIns := [], harness := (true, "81faf64c7f266ed93886e460c7e388c29e62d0421aeff5713cd26b5e3e7e0aef"), looks := false }, kinds := [], alts := [], laidByText := true, laidKinds := [.widerDeep, .data], laidTests := true, laidLooks := .later }
def InsnKnownUptoCardSaid : Prop := Claim7.holds Tryd.pinned (.plain (OpenSpec.upto insnKnownSpec)) insnKnownUptoCard

/-- THE SECOND FORM's CARD OF 'crossbarlaw06.FlowTells'. -/
def flowTellsUptoCard : Claim7 := { stood := { row := flowTellsUptoRow, standIns := [], harness := (true, "81faf64c7f266ed93886e460c7e388c29e62d0421aeff5713cd26b5e3e7e0aef"), looks := false }, kinds := [], alts := [], laidByText := true, laidKinds := [.widerDeep, .data], laidTests := true, laidLooks := .later }
def FlowTellsUptoCardSaid : Prop := Claim7.holds Tryd.pinned (.plain (OpenSpec.upto flowTellsSpec)) flowTellsUptoCard

/-- THE SECOND FORM's CARD OF 'crossbarlaw06.FlowClosed'. -/
def flowClosedUptoCard : Claim7 := { stood := { row := flowClosedUptoRow, standIns := [], harness := (true, "81faf64c7f266ed93886e460c7e388c29e62d0421aeff5713cd26b5e3e7e0aef"), looks := false }, kinds := [], alts := [], laidByText := true, laidKinds := [.widerDeep, .data], laidTests := true, laidLooks := .later }
def FlowClosedUptoCardSaid : Prop := Claim7.holds Tryd.pinned (.plain (OpenSpec.upto flowClosedSpec)) flowClosedUptoCard

/-- THE SECOND FORM's CARD OF 'crossbarlaw06.FlowPlaces'. -/
def flowPlacesUptoCard : Claim7 := { stood := { row := flowPlacesUptoRow, standIns := [], harness := (true, "81faf64c7f266ed93886e460c7e388c29e62d0421aeff5713cd26b5e3e7e0aef"), looks := false }, kinds := [], alts := [], laidByText := true, laidKinds := [.widerDeep, .data], laidTests := true, laidLooks := .later }
def FlowPlacesUptoCardSaid : Prop := Claim7.holds Tryd.pinned (.plain (OpenSpec.upto flowPlacesSpec)) flowPlacesUptoCard

/-- THE SECOND FORM's CARD OF 'crossbarlaw06.FlowPads'. -/
def flowPadsUptoCard : Claim7 := { stood := { row := flowPadsUptoRow, standIns := [], harness := (true, "81faf64c7f266ed93886e460c7e388c29e62d0421aeff5713cd26b5e3e7e0aef"), looks := false }, kinds := [], alts := [], laidByText := true, laidKinds := [.widerDeep, .data], laidTests := true, laidLooks := .later }
def FlowPadsUptoCardSaid : Prop := Claim7.holds Tryd.pinned (.plain (OpenSpec.upto flowPadsSpec)) flowPadsUptoCard
end Rows
end Go.Proofs.YtmgkngdbphkmmaaDoor
