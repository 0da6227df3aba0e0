/-
  DERIVED. GIVEN WITH THE SEED: THE CARDS: each row of YtccjmgcafifmkaaDoorRows.lean that lists a variable, with what it lists TIED to the program's text (the seventh form; the later family's looks); each row that meets fmt, with fmt's text TOLD by the authors' own Lean function (tested against real Go, not proved from fmt's source: count such statements apart). THE CARD IS WHAT COUNTS. Prove the row's statement (the work); the ties are given (YtccjmgcafifmkaaDoorTie.lean); close each card by the builder's one call (the guide's Derived/Test/ToyasCard.lean, 'card_holds'). Laid BY PROGRAM, IN A SANDBOX (cutbox-door.mjs). By AI agents, Wed Nov 11 2026. No macro, syntax, notation, axiom, sorry.
-/
import Derived.Test.YtccjmgcafifmkaaDoorRows
import GoSem.ClaimSeven
namespace Go.Proofs.YtccjmgcafifmkaaDoor
namespace Rows

/-- THE TIED CARD OF 'wherrylaw.TextChecks'. -/
def textChecksCard : Claim7 := { stood := { row := textChecksRow, standIns := [], harness := (true, "076909a22d8ea7b8f041ee6aab74e5675d4fbced2338e8fe5e4521a9e7d14146"), looks := false }, kinds := [], alts := [], laidByText := true, laidKinds := [.data, .pinned], laidTests := true, laidLooks := .later }
def TextChecksCardSaid : Prop := Claim7.holds Tryd.pinned (.plain (OpenSpec.ofChange textChecksSpec)) textChecksCard

/-- THE TIED CARD OF 'wherrylaw.TextWholes'. -/
def textWholesCard : Claim7 := { stood := { row := textWholesRow, standIns := [], harness := (true, "076909a22d8ea7b8f041ee6aab74e5675d4fbced2338e8fe5e4521a9e7d14146"), looks := false }, kinds := [], alts := [], laidByText := true, laidKinds := [.data, .pinned], laidTests := true, laidLooks := .later }
def TextWholesCardSaid : Prop := Claim7.holds Tryd.pinned (.plain (OpenSpec.ofChange textWholesSpec)) textWholesCard

/-- THE TIED CARD OF 'wherrylaw.TextOps'. -/
def textOpsCard : Claim7 := { stood := { row := textOpsRow, standIns := [], harness := (true, "076909a22d8ea7b8f041ee6aab74e5675d4fbced2338e8fe5e4521a9e7d14146"), looks := false }, kinds := [], alts := [], laidByText := true, laidKinds := [.data, .pinned], laidTests := true, laidLooks := .later }
def TextOpsCardSaid : Prop := Claim7.holds Tryd.pinned (.plain (OpenSpec.ofChange textOpsSpec)) textOpsCard

/-- THE TIED CARD OF 'wherrylaw.WireRecords'. -/
def wireRecordsCard : Claim7 := { stood := { row := wireRecordsRow, standIns := [], harness := (true, "076909a22d8ea7b8f041ee6aab74e5675d4fbced2338e8fe5e4521a9e7d14146"), looks := false }, kinds := [], alts := [], laidByText := true, laidKinds := [.data, .pinned], laidTests := true, laidLooks := .later }
def WireRecordsCardSaid : Prop := Claim7.holds Tryd.pinned (.plain (OpenSpec.ofChange wireRecordsSpec)) wireRecordsCard

/-- THE TIED CARD OF 'wherrylaw.EdgeChecks'. -/
def edgeChecksCard : Claim7 := { stood := { row := edgeChecksRow, standIns := [], harness := (true, "076909a22d8ea7b8f041ee6aab74e5675d4fbced2338e8fe5e4521a9e7d14146"), looks := false }, kinds := [], alts := [], laidByText := true, laidKinds := [.data, .pinned], laidTests := true, laidLooks := .later }
def EdgeChecksCardSaid : Prop := Claim7.holds Tryd.pinned (.plain (OpenSpec.ofChange edgeChecksSpec)) edgeChecksCard

/-- THE TIED CARD OF 'wherrylaw.WireFrames'. -/
def wireFramesCard : Claim7 := { stood := { row := wireFramesRow, standIns := [], harness := (true, "076909a22d8ea7b8f041ee6aab74e5675d4fbced2338e8fe5e4521a9e7d14146"), looks := false }, kinds := [], alts := [], laidByText := true, laidKinds := [.data, .pinned], laidTests := true, laidLooks := .later }
def WireFramesCardSaid : Prop := Claim7.holds Tryd.pinned (.plain (OpenSpec.ofChange wireFramesSpec)) wireFramesCard

/-- THE SECOND FORM's CARD OF 'wherrylaw.TextChecks'. -/
def textChecksUptoCard : Claim7 := { stood := { row := textChecksUptoRow, standIns := [], harness := (true, "076909a22d8ea7b8f041ee6aab74e5675d4fbced2338e8fe5e4521a9e7d14146"), looks := false }, kinds := [], alts := [], laidByText := true, laidKinds := [.data, .pinned], laidTests := true, laidLooks := .later }
def TextChecksUptoCardSaid : Prop := Claim7.holds Tryd.pinned (.plain (OpenSpec.upto textChecksSpec)) textChecksUptoCard

/-- THE SECOND FORM's CARD OF 'wherrylaw.TextWholes'. -/
def textWholesUptoCard : Claim7 := { stood := { row := textWholesUptoRow, standIns := [], harness := (true, "076909a22d8ea7b8f041ee6aab74e5675d4fbced2338e8fe5e4521a9e7d14146"), looks := false }, kinds := [], alts := [], laidByText := true, laidKinds := [.data, .pinned], laidTests := true, laidLooks := .later }
def TextWholesUptoCardSaid : Prop := Claim7.holds Tryd.pinned (.plain (OpenSpec.upto textWholesSpec)) textWholesUptoCard

/-- THE SECOND FORM's CARD OF 'wherrylaw.TextOps'. -/
def textOpsUptoCard : Claim7 := { stood := { row := textOpsUptoRow, standIns := [], harness := (true, "076909a22d8ea7b8f041ee6aab74e5675d4fbced2338e8fe5e4521a9e7d14146"), looks := false }, kinds := [], alts := [], laidByText := true, laidKinds := [.data, .pinned], laidTests := true, laidLooks := .later }
def TextOpsUptoCardSaid : Prop := Claim7.holds Tryd.pinned (.plain (OpenSpec.upto textOpsSpec)) textOpsUptoCard

/-- THE SECOND FORM's CARD OF 'wherrylaw.WireRecords'. -/
def wireRecordsUptoCard : Claim7 := { stood := { row := wireRecordsUptoRow, standIns := [], harness := (true, "076909a22d8ea7b8f041ee6aab74e5675d4fbced2338e8fe5e4521a9e7d14146"), looks := false }, kinds := [], alts := [], laidByText := true, laidKinds := [.data, .pinned], laidTests := true, laidLooks := .later }
def WireRecordsUptoCardSaid : Prop := Claim7.holds Tryd.pinned (.plain (OpenSpec.upto wireRecordsSpec)) wireRecordsUptoCard

/-- THE SECOND FORM's CARD OF 'wherrylaw.EdgeChecks'. -/
def edgeChecksUptoCard : Claim7 := { stood := { row := edgeChecksUptoRow, standIns := [], harness := (true, "076909a22d8ea7b8f041ee6aab74e5675d4fbced2338e8fe5e4521a9e7d14146"), looks := false }, kinds := [], alts := [], laidByText := true, laidKinds := [.data, .pinned], laidTests := true, laidLooks := .later }
def EdgeChecksUptoCardSaid : Prop := Claim7.holds Tryd.pinned (.plain (OpenSpec.upto edgeChecksSpec)) edgeChecksUptoCard

/-- THE SECOND FORM's CARD OF 'wherrylaw.WireFrames'. -/
def wireFramesUptoCard : Claim7 := { stood := { row := wireFramesUptoRow, standIns := [], harness := (true, "076909a22d8ea7b8f041ee6aab74e5675d4fbced2338e8fe5e4521a9e7d14146"), looks := false }, kinds := [], alts := [], laidByText := true, laidKinds := [.data, .pinned], laidTests := true, laidLooks := .later }
def WireFramesUptoCardSaid : Prop := Claim7.holds Tryd.pinned (.plain (OpenSpec.upto wireFramesSpec)) wireFramesUptoCard
end Rows
end Go.Proofs.YtccjmgcafifmkaaDoor
