/-
  DERIVED. GIVEN WITH THE SEED: THE CARDS: each row of YtkelmppfijgecaaDoorRows.lean that lists a variable, with what it lists TIED to the program's text (the seventh form; the later family's looks); each row that meets fmt, with fmt's text TOLD by the authors' own Lean function (tested against real Go, not proved from fmt's source: count such statements apart). THE CARD IS WHAT COUNTS. Prove the row's statement (the work); the ties are given (YtkelmppfijgecaaDoorTie.lean); close each card by the builder's one call (the guide's Derived/Test/ToyasCard.lean, 'card_holds'). Laid BY PROGRAM, IN A SANDBOX (cutbox-door.mjs). By AI agents, Wed Nov 11 2026. No macro, syntax, notation, axiom, sorry.
-/
import Derived.Test.YtkelmppfijgecaaDoorRows
import GoSem.ClaimSeven
namespace Go.Proofs.YtkelmppfijgecaaDoor
namespace Rows

/-- THE TIED CARD OF 'wherrylaw.TextMoves'. -/
def textMovesCard : Claim7 := { stood := { row := textMovesRow, standIns := [], harness := (true, "e3bf02f0be22e3ba87c3e40dd5b6b31853d7ec621eec0e049e961305c48aa167"), looks := false }, kinds := [], alts := [], laidByText := true, laidKinds := [.data, .pinned], laidTests := true, laidLooks := .later }
def TextMovesCardSaid : Prop := Claim7.holds Tryd.pinned (.plain (OpenSpec.ofChange textMovesSpec)) textMovesCard

/-- THE TIED CARD OF 'wherrylaw.LinesChecks'. -/
def linesChecksCard : Claim7 := { stood := { row := linesChecksRow, standIns := [], harness := (true, "e3bf02f0be22e3ba87c3e40dd5b6b31853d7ec621eec0e049e961305c48aa167"), looks := false }, kinds := [], alts := [], laidByText := true, laidKinds := [.data, .pinned], laidTests := true, laidLooks := .later }
def LinesChecksCardSaid : Prop := Claim7.holds Tryd.pinned (.plain (OpenSpec.ofChange linesChecksSpec)) linesChecksCard

/-- THE TIED CARD OF 'wherrylaw.WirePackets'. -/
def wirePacketsCard : Claim7 := { stood := { row := wirePacketsRow, standIns := [], harness := (true, "e3bf02f0be22e3ba87c3e40dd5b6b31853d7ec621eec0e049e961305c48aa167"), looks := false }, kinds := [], alts := [], laidByText := true, laidKinds := [.data, .pinned], laidTests := true, laidLooks := .later }
def WirePacketsCardSaid : Prop := Claim7.holds Tryd.pinned (.plain (OpenSpec.ofChange wirePacketsSpec)) wirePacketsCard

/-- THE TIED CARD OF 'wherrylaw.WireWrites'. -/
def wireWritesCard : Claim7 := { stood := { row := wireWritesRow, standIns := [], harness := (true, "e3bf02f0be22e3ba87c3e40dd5b6b31853d7ec621eec0e049e961305c48aa167"), looks := false }, kinds := [], alts := [], laidByText := true, laidKinds := [.data, .pinned], laidTests := true, laidLooks := .later }
def WireWritesCardSaid : Prop := Claim7.holds Tryd.pinned (.plain (OpenSpec.ofChange wireWritesSpec)) wireWritesCard

/-- THE TIED CARD OF 'wherrylaw.TextApplies'. -/
def textAppliesCard : Claim7 := { stood := { row := textAppliesRow, standIns := [], harness := (true, "e3bf02f0be22e3ba87c3e40dd5b6b31853d7ec621eec0e049e961305c48aa167"), looks := false }, kinds := [], alts := [], laidByText := true, laidKinds := [.data, .pinned], laidTests := true, laidLooks := .later }
def TextAppliesCardSaid : Prop := Claim7.holds Tryd.pinned (.plain (OpenSpec.ofChange textAppliesSpec)) textAppliesCard

/-- THE TIED CARD OF 'wherrylaw.LinkChecks'. -/
def linkChecksCard : Claim7 := { stood := { row := linkChecksRow, standIns := [], harness := (true, "e3bf02f0be22e3ba87c3e40dd5b6b31853d7ec621eec0e049e961305c48aa167"), looks := false }, kinds := [], alts := [], laidByText := true, laidKinds := [.data, .pinned], laidTests := true, laidLooks := .later }
def LinkChecksCardSaid : Prop := Claim7.holds Tryd.pinned (.plain (OpenSpec.ofChange linkChecksSpec)) linkChecksCard

/-- THE TIED CARD OF 'wherrylaw.EdgeSends'. -/
def edgeSendsCard : Claim7 := { stood := { row := edgeSendsRow, standIns := [], harness := (true, "e3bf02f0be22e3ba87c3e40dd5b6b31853d7ec621eec0e049e961305c48aa167"), looks := false }, kinds := [], alts := [], laidByText := true, laidKinds := [.data, .pinned], laidTests := true, laidLooks := .later }
def EdgeSendsCardSaid : Prop := Claim7.holds Tryd.pinned (.plain (OpenSpec.ofChange edgeSendsSpec)) edgeSendsCard

/-- THE TIED CARD OF 'wherrylaw.TapeReplays'. -/
def tapeReplaysCard : Claim7 := { stood := { row := tapeReplaysRow, standIns := [], harness := (true, "e3bf02f0be22e3ba87c3e40dd5b6b31853d7ec621eec0e049e961305c48aa167"), looks := false }, kinds := [], alts := [], laidByText := true, laidKinds := [.data, .pinned], laidTests := true, laidLooks := .later }
def TapeReplaysCardSaid : Prop := Claim7.holds Tryd.pinned (.plain (OpenSpec.ofChange tapeReplaysSpec)) tapeReplaysCard

/-- THE TIED CARD OF 'wherrylaw.LinkTicks'. -/
def linkTicksCard : Claim7 := { stood := { row := linkTicksRow, standIns := [], harness := (true, "e3bf02f0be22e3ba87c3e40dd5b6b31853d7ec621eec0e049e961305c48aa167"), looks := false }, kinds := [], alts := [], laidByText := true, laidKinds := [.data, .pinned], laidTests := true, laidLooks := .later }
def LinkTicksCardSaid : Prop := Claim7.holds Tryd.pinned (.plain (OpenSpec.ofChange linkTicksSpec)) linkTicksCard

/-- THE TIED CARD OF 'wherrylaw.WireSends'. -/
def wireSendsCard : Claim7 := { stood := { row := wireSendsRow, standIns := [], harness := (true, "e3bf02f0be22e3ba87c3e40dd5b6b31853d7ec621eec0e049e961305c48aa167"), looks := false }, kinds := [], alts := [], laidByText := true, laidKinds := [.data, .pinned], laidTests := true, laidLooks := .later }
def WireSendsCardSaid : Prop := Claim7.holds Tryd.pinned (.plain (OpenSpec.ofChange wireSendsSpec)) wireSendsCard

/-- THE TIED CARD OF 'wherrylaw.WireReads'. -/
def wireReadsCard : Claim7 := { stood := { row := wireReadsRow, standIns := [], harness := (true, "e3bf02f0be22e3ba87c3e40dd5b6b31853d7ec621eec0e049e961305c48aa167"), looks := false }, kinds := [], alts := [], laidByText := true, laidKinds := [.data, .pinned], laidTests := true, laidLooks := .later }
def WireReadsCardSaid : Prop := Claim7.holds Tryd.pinned (.plain (OpenSpec.ofChange wireReadsSpec)) wireReadsCard

/-- THE TIED CARD OF 'wherrylaw.TapeAppends'. -/
def tapeAppendsCard : Claim7 := { stood := { row := tapeAppendsRow, standIns := [], harness := (true, "e3bf02f0be22e3ba87c3e40dd5b6b31853d7ec621eec0e049e961305c48aa167"), looks := false }, kinds := [], alts := [], laidByText := true, laidKinds := [.data, .pinned], laidTests := true, laidLooks := .later }
def TapeAppendsCardSaid : Prop := Claim7.holds Tryd.pinned (.plain (OpenSpec.ofChange tapeAppendsSpec)) tapeAppendsCard

/-- THE SECOND FORM's CARD OF 'wherrylaw.TextMoves'. -/
def textMovesUptoCard : Claim7 := { stood := { row := textMovesUptoRow, standIns := [], harness := (true, "e3bf02f0be22e3ba87c3e40dd5b6b31853d7ec621eec0e049e961305c48aa167"), looks := false }, kinds := [], alts := [], laidByText := true, laidKinds := [.data, .pinned], laidTests := true, laidLooks := .later }
def TextMovesUptoCardSaid : Prop := Claim7.holds Tryd.pinned (.plain (OpenSpec.upto textMovesSpec)) textMovesUptoCard

/-- THE SECOND FORM's CARD OF 'wherrylaw.LinesChecks'. -/
def linesChecksUptoCard : Claim7 := { stood := { row := linesChecksUptoRow, standIns := [], harness := (true, "e3bf02f0be22e3ba87c3e40dd5b6b31853d7ec621eec0e049e961305c48aa167"), looks := false }, kinds := [], alts := [], laidByText := true, laidKinds := [.data, .pinned], laidTests := true, laidLooks := .later }
def LinesChecksUptoCardSaid : Prop := Claim7.holds Tryd.pinned (.plain (OpenSpec.upto linesChecksSpec)) linesChecksUptoCard

/-- THE SECOND FORM's CARD OF 'wherrylaw.WirePackets'. -/
def wirePacketsUptoCard : Claim7 := { stood := { row := wirePacketsUptoRow, standIns := [], harness := (true, "e3bf02f0be22e3ba87c3e40dd5b6b31853d7ec621eec0e049e961305c48aa167"), looks := false }, kinds := [], alts := [], laidByText := true, laidKinds := [.data, .pinned], laidTests := true, laidLooks := .later }
def WirePacketsUptoCardSaid : Prop := Claim7.holds Tryd.pinned (.plain (OpenSpec.upto wirePacketsSpec)) wirePacketsUptoCard

/-- THE SECOND FORM's CARD OF 'wherrylaw.WireWrites'. -/
def wireWritesUptoCard : Claim7 := { stood := { row := wireWritesUptoRow, standIns := [], harness := (true, "e3bf02f0be22e3ba87c3e40dd5b6b31853d7ec621eec0e049e961305c48aa167"), looks := false }, kinds := [], alts := [], laidByText := true, laidKinds := [.data, .pinned], laidTests := true, laidLooks := .later }
def WireWritesUptoCardSaid : Prop := Claim7.holds Tryd.pinned (.plain (OpenSpec.upto wireWritesSpec)) wireWritesUptoCard

/-- THE SECOND FORM's CARD OF 'wherrylaw.TextApplies'. -/
def textAppliesUptoCard : Claim7 := { stood := { row := textAppliesUptoRow, standIns := [], harness := (true, "e3bf02f0be22e3ba87c3e40dd5b6b31853d7ec621eec0e049e961305c48aa167"), looks := false }, kinds := [], alts := [], laidByText := true, laidKinds := [.data, .pinned], laidTests := true, laidLooks := .later }
def TextAppliesUptoCardSaid : Prop := Claim7.holds Tryd.pinned (.plain (OpenSpec.upto textAppliesSpec)) textAppliesUptoCard

/-- THE SECOND FORM's CARD OF 'wherrylaw.LinkChecks'. -/
def linkChecksUptoCard : Claim7 := { stood := { row := linkChecksUptoRow, standIns := [], harness := (true, "e3bf02f0be22e3ba87c3e40dd5b6b31853d7ec621eec0e049e961305c48aa167"), looks := false }, kinds := [], alts := [], laidByText := true, laidKinds := [.data, .pinned], laidTests := true, laidLooks := .later }
def LinkChecksUptoCardSaid : Prop := Claim7.holds Tryd.pinned (.plain (OpenSpec.upto linkChecksSpec)) linkChecksUptoCard

/-- THE SECOND FORM's CARD OF 'wherrylaw.EdgeSends'. -/
def edgeSendsUptoCard : Claim7 := { stood := { row := edgeSendsUptoRow, standIns := [], harness := (true, "e3bf02f0be22e3ba87c3e40dd5b6b31853d7ec621eec0e049e961305c48aa167"), looks := false }, kinds := [], alts := [], laidByText := true, laidKinds := [.data, .pinned], laidTests := true, laidLooks := .later }
def EdgeSendsUptoCardSaid : Prop := Claim7.holds Tryd.pinned (.plain (OpenSpec.upto edgeSendsSpec)) edgeSendsUptoCard

/-- THE SECOND FORM's CARD OF 'wherrylaw.TapeReplays'. -/
def tapeReplaysUptoCard : Claim7 := { stood := { row := tapeReplaysUptoRow, standIns := [], harness := (true, "e3bf02f0be22e3ba87c3e40dd5b6b31853d7ec621eec0e049e961305c48aa167"), looks := false }, kinds := [], alts := [], laidByText := true, laidKinds := [.data, .pinned], laidTests := true, laidLooks := .later }
def TapeReplaysUptoCardSaid : Prop := Claim7.holds Tryd.pinned (.plain (OpenSpec.upto tapeReplaysSpec)) tapeReplaysUptoCard

/-- THE SECOND FORM's CARD OF 'wherrylaw.LinkTicks'. -/
def linkTicksUptoCard : Claim7 := { stood := { row := linkTicksUptoRow, standIns := [], harness := (true, "e3bf02f0be22e3ba87c3e40dd5b6b31853d7ec621eec0e049e961305c48aa167"), looks := false }, kinds := [], alts := [], laidByText := true, laidKinds := [.data, .pinned], laidTests := true, laidLooks := .later }
def LinkTicksUptoCardSaid : Prop := Claim7.holds Tryd.pinned (.plain (OpenSpec.upto linkTicksSpec)) linkTicksUptoCard

/-- THE SECOND FORM's CARD OF 'wherrylaw.WireSends'. -/
def wireSendsUptoCard : Claim7 := { stood := { row := wireSendsUptoRow, standIns := [], harness := (true, "e3bf02f0be22e3ba87c3e40dd5b6b31853d7ec621eec0e049e961305c48aa167"), looks := false }, kinds := [], alts := [], laidByText := true, laidKinds := [.data, .pinned], laidTests := true, laidLooks := .later }
def WireSendsUptoCardSaid : Prop := Claim7.holds Tryd.pinned (.plain (OpenSpec.upto wireSendsSpec)) wireSendsUptoCard

/-- THE SECOND FORM's CARD OF 'wherrylaw.WireReads'. -/
def wireReadsUptoCard : Claim7 := { stood := { row := wireReadsUptoRow, standIns := [], harness := (true, "e3bf02f0be22e3ba87c3e40dd5b6b31853d7ec621eec0e049e961305c48aa167"), looks := false }, kinds := [], alts := [], laidByText := true, laidKinds := [.data, .pinned], laidTests := true, laidLooks := .later }
def WireReadsUptoCardSaid : Prop := Claim7.holds Tryd.pinned (.plain (OpenSpec.upto wireReadsSpec)) wireReadsUptoCard

/-- THE SECOND FORM's CARD OF 'wherrylaw.TapeAppends'. -/
def tapeAppendsUptoCard : Claim7 := { stood := { row := tapeAppendsUptoRow, standIns := [], harness := (true, "e3bf02f0be22e3ba87c3e40dd5b6b31853d7ec621eec0e049e961305c48aa167"), looks := false }, kinds := [], alts := [], laidByText := true, laidKinds := [.data, .pinned], laidTests := true, laidLooks := .later }
def TapeAppendsUptoCardSaid : Prop := Claim7.holds Tryd.pinned (.plain (OpenSpec.upto tapeAppendsSpec)) tapeAppendsUptoCard
end Rows
end Go.Proofs.YtkelmppfijgecaaDoor
