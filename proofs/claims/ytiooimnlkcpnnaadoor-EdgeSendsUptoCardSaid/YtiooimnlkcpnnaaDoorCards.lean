/-
  DERIVED. GIVEN WITH THE SEED: THE CARDS: each row of YtiooimnlkcpnnaaDoorRows.lean that lists a variable, with what it lists TIED to the program's text (the seventh form; the later family's looks); each row that meets fmt, with fmt's text TOLD by the authors' own Lean function (tested against real Go, not proved from fmt's source: count such statements apart). THE CARD IS WHAT COUNTS. Prove the row's statement (the work); the ties are given (YtiooimnlkcpnnaaDoorTie.lean); close each card by the builder's one call (the guide's Derived/Test/ToyasCard.lean, 'card_holds'). Laid BY PROGRAM, IN A SANDBOX (cutbox-door.mjs). By AI agents, Wed Nov 11 2026. No macro, syntax, notation, axiom, sorry.
-/
import Derived.Test.YtiooimnlkcpnnaaDoorRows
import GoSem.ClaimSeven
namespace Go.Proofs.YtiooimnlkcpnnaaDoor
namespace Rows

/-- THE TIED CARD OF 'wherrylaw.TextMoves'. -/
def textMovesCard : Claim7 := { stood := { row := textMovesRow, standIns := [], harness := (true, "9b077d48017ce01929fbf4ec92c6d76f065c4090edad33eefac90124b82bd27b"), looks := false }, kinds := [], alts := [], laidByText := true, laidKinds := [.data, .pinned], laidTests := true, laidLooks := .later }
def TextMovesCardSaid : Prop := Claim7.holds Tryd.pinned (.plain (OpenSpec.ofChange textMovesSpec)) textMovesCard

/-- THE TIED CARD OF 'wherrylaw.LinesChecks'. -/
def linesChecksCard : Claim7 := { stood := { row := linesChecksRow, standIns := [], harness := (true, "9b077d48017ce01929fbf4ec92c6d76f065c4090edad33eefac90124b82bd27b"), looks := false }, kinds := [], alts := [], laidByText := true, laidKinds := [.data, .pinned], laidTests := true, laidLooks := .later }
def LinesChecksCardSaid : Prop := Claim7.holds Tryd.pinned (.plain (OpenSpec.ofChange linesChecksSpec)) linesChecksCard

/-- THE TIED CARD OF 'wherrylaw.LinkChecks'. -/
def linkChecksCard : Claim7 := { stood := { row := linkChecksRow, standIns := [], harness := (true, "9b077d48017ce01929fbf4ec92c6d76f065c4090edad33eefac90124b82bd27b"), looks := false }, kinds := [], alts := [], laidByText := true, laidKinds := [.data, .pinned], laidTests := true, laidLooks := .later }
def LinkChecksCardSaid : Prop := Claim7.holds Tryd.pinned (.plain (OpenSpec.ofChange linkChecksSpec)) linkChecksCard

/-- THE TIED CARD OF 'wherrylaw.EdgeSends'. -/
def edgeSendsCard : Claim7 := { stood := { row := edgeSendsRow, standIns := [], harness := (true, "9b077d48017ce01929fbf4ec92c6d76f065c4090edad33eefac90124b82bd27b"), looks := false }, kinds := [], alts := [], laidByText := true, laidKinds := [.data, .pinned], laidTests := true, laidLooks := .later }
def EdgeSendsCardSaid : Prop := Claim7.holds Tryd.pinned (.plain (OpenSpec.ofChange edgeSendsSpec)) edgeSendsCard

/-- THE TIED CARD OF 'wherrylaw.LinkTicks'. -/
def linkTicksCard : Claim7 := { stood := { row := linkTicksRow, standIns := [], harness := (true, "9b077d48017ce01929fbf4ec92c6d76f065c4090edad33eefac90124b82bd27b"), looks := false }, kinds := [], alts := [], laidByText := true, laidKinds := [.data, .pinned], laidTests := true, laidLooks := .later }
def LinkTicksCardSaid : Prop := Claim7.holds Tryd.pinned (.plain (OpenSpec.ofChange linkTicksSpec)) linkTicksCard

/-- THE TIED CARD OF 'wherrylaw.WireSends'. -/
def wireSendsCard : Claim7 := { stood := { row := wireSendsRow, standIns := [], harness := (true, "9b077d48017ce01929fbf4ec92c6d76f065c4090edad33eefac90124b82bd27b"), looks := false }, kinds := [], alts := [], laidByText := true, laidKinds := [.data, .pinned], laidTests := true, laidLooks := .later }
def WireSendsCardSaid : Prop := Claim7.holds Tryd.pinned (.plain (OpenSpec.ofChange wireSendsSpec)) wireSendsCard

/-- THE TIED CARD OF 'wherrylaw.WireReads'. -/
def wireReadsCard : Claim7 := { stood := { row := wireReadsRow, standIns := [], harness := (true, "9b077d48017ce01929fbf4ec92c6d76f065c4090edad33eefac90124b82bd27b"), looks := false }, kinds := [], alts := [], laidByText := true, laidKinds := [.data, .pinned], laidTests := true, laidLooks := .later }
def WireReadsCardSaid : Prop := Claim7.holds Tryd.pinned (.plain (OpenSpec.ofChange wireReadsSpec)) wireReadsCard

/-- THE TIED CARD OF 'wherrylaw.TapeAppends'. -/
def tapeAppendsCard : Claim7 := { stood := { row := tapeAppendsRow, standIns := [], harness := (true, "9b077d48017ce01929fbf4ec92c6d76f065c4090edad33eefac90124b82bd27b"), looks := false }, kinds := [], alts := [], laidByText := true, laidKinds := [.data, .pinned], laidTests := true, laidLooks := .later }
def TapeAppendsCardSaid : Prop := Claim7.holds Tryd.pinned (.plain (OpenSpec.ofChange tapeAppendsSpec)) tapeAppendsCard

/-- THE TIED CARD OF 'wherrylaw.LinkSends'. -/
def linkSendsCard : Claim7 := { stood := { row := linkSendsRow, standIns := [], harness := (true, "9b077d48017ce01929fbf4ec92c6d76f065c4090edad33eefac90124b82bd27b"), looks := false }, kinds := [], alts := [], laidByText := true, laidKinds := [.data, .pinned], laidTests := true, laidLooks := .later }
def LinkSendsCardSaid : Prop := Claim7.holds Tryd.pinned (.plain (OpenSpec.ofChange linkSendsSpec)) linkSendsCard

/-- THE TIED CARD OF 'wherrylaw.TextInverts'. -/
def textInvertsCard : Claim7 := { stood := { row := textInvertsRow, standIns := [], harness := (true, "9b077d48017ce01929fbf4ec92c6d76f065c4090edad33eefac90124b82bd27b"), looks := false }, kinds := [], alts := [], laidByText := true, laidKinds := [.data, .pinned], laidTests := true, laidLooks := .later }
def TextInvertsCardSaid : Prop := Claim7.holds Tryd.pinned (.plain (OpenSpec.ofChange textInvertsSpec)) textInvertsCard

/-- THE TIED CARD OF 'wherrylaw.TextComposes'. -/
def textComposesCard : Claim7 := { stood := { row := textComposesRow, standIns := [], harness := (true, "9b077d48017ce01929fbf4ec92c6d76f065c4090edad33eefac90124b82bd27b"), looks := false }, kinds := [], alts := [], laidByText := true, laidKinds := [.data, .pinned], laidTests := true, laidLooks := .later }
def TextComposesCardSaid : Prop := Claim7.holds Tryd.pinned (.plain (OpenSpec.ofChange textComposesSpec)) textComposesCard

/-- THE TIED CARD OF 'wherrylaw.TapeRecovers'. -/
def tapeRecoversCard : Claim7 := { stood := { row := tapeRecoversRow, standIns := [], harness := (true, "9b077d48017ce01929fbf4ec92c6d76f065c4090edad33eefac90124b82bd27b"), looks := false }, kinds := [], alts := [], laidByText := true, laidKinds := [.data, .pinned], laidTests := true, laidLooks := .later }
def TapeRecoversCardSaid : Prop := Claim7.holds Tryd.pinned (.plain (OpenSpec.ofChange tapeRecoversSpec)) tapeRecoversCard

/-- THE TIED CARD OF 'wherrylaw.TextTransforms'. -/
def textTransformsCard : Claim7 := { stood := { row := textTransformsRow, standIns := [], harness := (true, "9b077d48017ce01929fbf4ec92c6d76f065c4090edad33eefac90124b82bd27b"), looks := false }, kinds := [], alts := [], laidByText := true, laidKinds := [.data, .pinned], laidTests := true, laidLooks := .later }
def TextTransformsCardSaid : Prop := Claim7.holds Tryd.pinned (.plain (OpenSpec.ofChange textTransformsSpec)) textTransformsCard

/-- THE TIED CARD OF 'wherrylaw.LinkHears'. -/
def linkHearsCard : Claim7 := { stood := { row := linkHearsRow, standIns := [], harness := (true, "9b077d48017ce01929fbf4ec92c6d76f065c4090edad33eefac90124b82bd27b"), looks := false }, kinds := [], alts := [], laidByText := true, laidKinds := [.data, .pinned], laidTests := true, laidLooks := .later }
def LinkHearsCardSaid : Prop := Claim7.holds Tryd.pinned (.plain (OpenSpec.ofChange linkHearsSpec)) linkHearsCard

/-- THE TIED CARD OF 'wherrylaw.WireHears'. -/
def wireHearsCard : Claim7 := { stood := { row := wireHearsRow, standIns := [], harness := (true, "9b077d48017ce01929fbf4ec92c6d76f065c4090edad33eefac90124b82bd27b"), looks := false }, kinds := [], alts := [], laidByText := true, laidKinds := [.data, .pinned], laidTests := true, laidLooks := .later }
def WireHearsCardSaid : Prop := Claim7.holds Tryd.pinned (.plain (OpenSpec.ofChange wireHearsSpec)) wireHearsCard

/-- THE TIED CARD OF 'wherrylaw.NodeChecks'. -/
def nodeChecksCard : Claim7 := { stood := { row := nodeChecksRow, standIns := [], harness := (true, "9b077d48017ce01929fbf4ec92c6d76f065c4090edad33eefac90124b82bd27b"), looks := false }, kinds := [], alts := [], laidByText := true, laidKinds := [.data, .pinned], laidTests := true, laidLooks := .later }
def NodeChecksCardSaid : Prop := Claim7.holds Tryd.pinned (.plain (OpenSpec.ofChange nodeChecksSpec)) nodeChecksCard

/-- THE SECOND FORM's CARD OF 'wherrylaw.TextMoves'. -/
def textMovesUptoCard : Claim7 := { stood := { row := textMovesUptoRow, standIns := [], harness := (true, "9b077d48017ce01929fbf4ec92c6d76f065c4090edad33eefac90124b82bd27b"), looks := false }, kinds := [], alts := [], laidByText := true, laidKinds := [.data, .pinned], laidTests := true, laidLooks := .later }
def TextMovesUptoCardSaid : Prop := Claim7.holds Tryd.pinned (.plain (OpenSpec.upto textMovesSpec)) textMovesUptoCard

/-- THE SECOND FORM's CARD OF 'wherrylaw.LinesChecks'. -/
def linesChecksUptoCard : Claim7 := { stood := { row := linesChecksUptoRow, standIns := [], harness := (true, "9b077d48017ce01929fbf4ec92c6d76f065c4090edad33eefac90124b82bd27b"), looks := false }, kinds := [], alts := [], laidByText := true, laidKinds := [.data, .pinned], laidTests := true, laidLooks := .later }
def LinesChecksUptoCardSaid : Prop := Claim7.holds Tryd.pinned (.plain (OpenSpec.upto linesChecksSpec)) linesChecksUptoCard

/-- THE SECOND FORM's CARD OF 'wherrylaw.LinkChecks'. -/
def linkChecksUptoCard : Claim7 := { stood := { row := linkChecksUptoRow, standIns := [], harness := (true, "9b077d48017ce01929fbf4ec92c6d76f065c4090edad33eefac90124b82bd27b"), looks := false }, kinds := [], alts := [], laidByText := true, laidKinds := [.data, .pinned], laidTests := true, laidLooks := .later }
def LinkChecksUptoCardSaid : Prop := Claim7.holds Tryd.pinned (.plain (OpenSpec.upto linkChecksSpec)) linkChecksUptoCard

/-- THE SECOND FORM's CARD OF 'wherrylaw.EdgeSends'. -/
def edgeSendsUptoCard : Claim7 := { stood := { row := edgeSendsUptoRow, standIns := [], harness := (true, "9b077d48017ce01929fbf4ec92c6d76f065c4090edad33eefac90124b82bd27b"), looks := false }, kinds := [], alts := [], laidByText := true, laidKinds := [.data, .pinned], laidTests := true, laidLooks := .later }
def EdgeSendsUptoCardSaid : Prop := Claim7.holds Tryd.pinned (.plain (OpenSpec.upto edgeSendsSpec)) edgeSendsUptoCard

/-- THE SECOND FORM's CARD OF 'wherrylaw.LinkTicks'. -/
def linkTicksUptoCard : Claim7 := { stood := { row := linkTicksUptoRow, standIns := [], harness := (true, "9b077d48017ce01929fbf4ec92c6d76f065c4090edad33eefac90124b82bd27b"), looks := false }, kinds := [], alts := [], laidByText := true, laidKinds := [.data, .pinned], laidTests := true, laidLooks := .later }
def LinkTicksUptoCardSaid : Prop := Claim7.holds Tryd.pinned (.plain (OpenSpec.upto linkTicksSpec)) linkTicksUptoCard

/-- THE SECOND FORM's CARD OF 'wherrylaw.WireSends'. -/
def wireSendsUptoCard : Claim7 := { stood := { row := wireSendsUptoRow, standIns := [], harness := (true, "9b077d48017ce01929fbf4ec92c6d76f065c4090edad33eefac90124b82bd27b"), looks := false }, kinds := [], alts := [], laidByText := true, laidKinds := [.data, .pinned], laidTests := true, laidLooks := .later }
def WireSendsUptoCardSaid : Prop := Claim7.holds Tryd.pinned (.plain (OpenSpec.upto wireSendsSpec)) wireSendsUptoCard

/-- THE SECOND FORM's CARD OF 'wherrylaw.WireReads'. -/
def wireReadsUptoCard : Claim7 := { stood := { row := wireReadsUptoRow, standIns := [], harness := (true, "9b077d48017ce01929fbf4ec92c6d76f065c4090edad33eefac90124b82bd27b"), looks := false }, kinds := [], alts := [], laidByText := true, laidKinds := [.data, .pinned], laidTests := true, laidLooks := .later }
def WireReadsUptoCardSaid : Prop := Claim7.holds Tryd.pinned (.plain (OpenSpec.upto wireReadsSpec)) wireReadsUptoCard

/-- THE SECOND FORM's CARD OF 'wherrylaw.TapeAppends'. -/
def tapeAppendsUptoCard : Claim7 := { stood := { row := tapeAppendsUptoRow, standIns := [], harness := (true, "9b077d48017ce01929fbf4ec92c6d76f065c4090edad33eefac90124b82bd27b"), looks := false }, kinds := [], alts := [], laidByText := true, laidKinds := [.data, .pinned], laidTests := true, laidLooks := .later }
def TapeAppendsUptoCardSaid : Prop := Claim7.holds Tryd.pinned (.plain (OpenSpec.upto tapeAppendsSpec)) tapeAppendsUptoCard

/-- THE SECOND FORM's CARD OF 'wherrylaw.LinkSends'. -/
def linkSendsUptoCard : Claim7 := { stood := { row := linkSendsUptoRow, standIns := [], harness := (true, "9b077d48017ce01929fbf4ec92c6d76f065c4090edad33eefac90124b82bd27b"), looks := false }, kinds := [], alts := [], laidByText := true, laidKinds := [.data, .pinned], laidTests := true, laidLooks := .later }
def LinkSendsUptoCardSaid : Prop := Claim7.holds Tryd.pinned (.plain (OpenSpec.upto linkSendsSpec)) linkSendsUptoCard

/-- THE SECOND FORM's CARD OF 'wherrylaw.TextInverts'. -/
def textInvertsUptoCard : Claim7 := { stood := { row := textInvertsUptoRow, standIns := [], harness := (true, "9b077d48017ce01929fbf4ec92c6d76f065c4090edad33eefac90124b82bd27b"), looks := false }, kinds := [], alts := [], laidByText := true, laidKinds := [.data, .pinned], laidTests := true, laidLooks := .later }
def TextInvertsUptoCardSaid : Prop := Claim7.holds Tryd.pinned (.plain (OpenSpec.upto textInvertsSpec)) textInvertsUptoCard

/-- THE SECOND FORM's CARD OF 'wherrylaw.TextComposes'. -/
def textComposesUptoCard : Claim7 := { stood := { row := textComposesUptoRow, standIns := [], harness := (true, "9b077d48017ce01929fbf4ec92c6d76f065c4090edad33eefac90124b82bd27b"), looks := false }, kinds := [], alts := [], laidByText := true, laidKinds := [.data, .pinned], laidTests := true, laidLooks := .later }
def TextComposesUptoCardSaid : Prop := Claim7.holds Tryd.pinned (.plain (OpenSpec.upto textComposesSpec)) textComposesUptoCard

/-- THE SECOND FORM's CARD OF 'wherrylaw.TapeRecovers'. -/
def tapeRecoversUptoCard : Claim7 := { stood := { row := tapeRecoversUptoRow, standIns := [], harness := (true, "9b077d48017ce01929fbf4ec92c6d76f065c4090edad33eefac90124b82bd27b"), looks := false }, kinds := [], alts := [], laidByText := true, laidKinds := [.data, .pinned], laidTests := true, laidLooks := .later }
def TapeRecoversUptoCardSaid : Prop := Claim7.holds Tryd.pinned (.plain (OpenSpec.upto tapeRecoversSpec)) tapeRecoversUptoCard

/-- THE SECOND FORM's CARD OF 'wherrylaw.TextTransforms'. -/
def textTransformsUptoCard : Claim7 := { stood := { row := textTransformsUptoRow, standIns := [], harness := (true, "9b077d48017ce01929fbf4ec92c6d76f065c4090edad33eefac90124b82bd27b"), looks := false }, kinds := [], alts := [], laidByText := true, laidKinds := [.data, .pinned], laidTests := true, laidLooks := .later }
def TextTransformsUptoCardSaid : Prop := Claim7.holds Tryd.pinned (.plain (OpenSpec.upto textTransformsSpec)) textTransformsUptoCard

/-- THE SECOND FORM's CARD OF 'wherrylaw.LinkHears'. -/
def linkHearsUptoCard : Claim7 := { stood := { row := linkHearsUptoRow, standIns := [], harness := (true, "9b077d48017ce01929fbf4ec92c6d76f065c4090edad33eefac90124b82bd27b"), looks := false }, kinds := [], alts := [], laidByText := true, laidKinds := [.data, .pinned], laidTests := true, laidLooks := .later }
def LinkHearsUptoCardSaid : Prop := Claim7.holds Tryd.pinned (.plain (OpenSpec.upto linkHearsSpec)) linkHearsUptoCard

/-- THE SECOND FORM's CARD OF 'wherrylaw.WireHears'. -/
def wireHearsUptoCard : Claim7 := { stood := { row := wireHearsUptoRow, standIns := [], harness := (true, "9b077d48017ce01929fbf4ec92c6d76f065c4090edad33eefac90124b82bd27b"), looks := false }, kinds := [], alts := [], laidByText := true, laidKinds := [.data, .pinned], laidTests := true, laidLooks := .later }
def WireHearsUptoCardSaid : Prop := Claim7.holds Tryd.pinned (.plain (OpenSpec.upto wireHearsSpec)) wireHearsUptoCard

/-- THE SECOND FORM's CARD OF 'wherrylaw.NodeChecks'. -/
def nodeChecksUptoCard : Claim7 := { stood := { row := nodeChecksUptoRow, standIns := [], harness := (true, "9b077d48017ce01929fbf4ec92c6d76f065c4090edad33eefac90124b82bd27b"), looks := false }, kinds := [], alts := [], laidByText := true, laidKinds := [.data, .pinned], laidTests := true, laidLooks := .later }
def NodeChecksUptoCardSaid : Prop := Claim7.holds Tryd.pinned (.plain (OpenSpec.upto nodeChecksSpec)) nodeChecksUptoCard
end Rows
end Go.Proofs.YtiooimnlkcpnnaaDoor
