/-
  DERIVED. GIVEN WITH THE SEED: THE CARDS: each row of YtacacoklddogmaaGreatDoorRows.lean that lists a variable, with what it lists TIED to the program's text (the seventh form; the later family's looks); each row that meets fmt, with fmt's text TOLD by the authors' own Lean function (tested against real Go, not proved from fmt's source: count such statements apart). THE CARD IS WHAT COUNTS. Prove the row's statement (the work); the ties are given (YtacacoklddogmaaGreatDoorTie.lean); close each card by the builder's one call (the guide's Derived/Test/ToyasCard.lean, 'card_holds'). Laid BY PROGRAM, IN A SANDBOX (cutbox-door.mjs). By AI agents, Wed Nov 11 2026. No macro, syntax, notation, axiom, sorry.
-/
import Derived.Test.YtacacoklddogmaaGreatDoorRows
import GoSem.ClaimSeven
namespace Go.Proofs.YtacacoklddogmaaGreatDoor
namespace Rows

/-- THE TIED CARD OF 'wherrylaw.NodeEdits'. -/
def nodeEditsCard : Claim7 := { stood := { row := nodeEditsRow, standIns := [], harness := (true, "38ad1d33df53096f00fc4ac3316c609e3e49d393a76a6418a7334e70aca87941"), looks := false }, kinds := [], alts := [], laidByText := true, laidKinds := [.data, .pinned], laidTests := true, laidLooks := .later }
def NodeEditsCardSaid : Prop := Claim7.holds Tryz.pinned (.plain (OpenSpec.ofChange nodeEditsSpec)) nodeEditsCard

/-- THE TIED CARD OF 'wherrylaw.NodeUndoes'. -/
def nodeUndoesCard : Claim7 := { stood := { row := nodeUndoesRow, standIns := [], harness := (true, "38ad1d33df53096f00fc4ac3316c609e3e49d393a76a6418a7334e70aca87941"), looks := false }, kinds := [], alts := [], laidByText := true, laidKinds := [.data, .pinned], laidTests := true, laidLooks := .later }
def NodeUndoesCardSaid : Prop := Claim7.holds Tryz.pinned (.plain (OpenSpec.ofChange nodeUndoesSpec)) nodeUndoesCard

/-- THE TIED CARD OF 'wherrylaw.NodeHears'. -/
def nodeHearsCard : Claim7 := { stood := { row := nodeHearsRow, standIns := [], harness := (true, "38ad1d33df53096f00fc4ac3316c609e3e49d393a76a6418a7334e70aca87941"), looks := false }, kinds := [], alts := [], laidByText := true, laidKinds := [.data, .pinned], laidTests := true, laidLooks := .later }
def NodeHearsCardSaid : Prop := Claim7.holds Tryz.pinned (.plain (OpenSpec.ofChange nodeHearsSpec)) nodeHearsCard

/-- THE SECOND FORM's CARD OF 'wherrylaw.NodeEdits'. -/
def nodeEditsUptoCard : Claim7 := { stood := { row := nodeEditsUptoRow, standIns := [], harness := (true, "38ad1d33df53096f00fc4ac3316c609e3e49d393a76a6418a7334e70aca87941"), looks := false }, kinds := [], alts := [], laidByText := true, laidKinds := [.data, .pinned], laidTests := true, laidLooks := .later }
def NodeEditsUptoCardSaid : Prop := Claim7.holds Tryz.pinned (.plain (OpenSpec.upto nodeEditsSpec)) nodeEditsUptoCard

/-- THE SECOND FORM's CARD OF 'wherrylaw.NodeUndoes'. -/
def nodeUndoesUptoCard : Claim7 := { stood := { row := nodeUndoesUptoRow, standIns := [], harness := (true, "38ad1d33df53096f00fc4ac3316c609e3e49d393a76a6418a7334e70aca87941"), looks := false }, kinds := [], alts := [], laidByText := true, laidKinds := [.data, .pinned], laidTests := true, laidLooks := .later }
def NodeUndoesUptoCardSaid : Prop := Claim7.holds Tryz.pinned (.plain (OpenSpec.upto nodeUndoesSpec)) nodeUndoesUptoCard

/-- THE SECOND FORM's CARD OF 'wherrylaw.NodeHears'. -/
def nodeHearsUptoCard : Claim7 := { stood := { row := nodeHearsUptoRow, standIns := [], harness := (true, "38ad1d33df53096f00fc4ac3316c609e3e49d393a76a6418a7334e70aca87941"), looks := false }, kinds := [], alts := [], laidByText := true, laidKinds := [.data, .pinned], laidTests := true, laidLooks := .later }
def NodeHearsUptoCardSaid : Prop := Claim7.holds Tryz.pinned (.plain (OpenSpec.upto nodeHearsSpec)) nodeHearsUptoCard
end Rows
end Go.Proofs.YtacacoklddogmaaGreatDoor
