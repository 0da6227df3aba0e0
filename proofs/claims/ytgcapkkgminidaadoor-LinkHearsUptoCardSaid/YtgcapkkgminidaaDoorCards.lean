/-
  DERIVED. GIVEN WITH THE SEED: THE CARDS: each row of YtgcapkkgminidaaDoorRows.lean that lists a variable, with what it lists TIED to the program's text (the seventh form; the later family's looks); each row that meets fmt, with fmt's text TOLD by the authors' own Lean function (tested against real Go, not proved from fmt's source: count such statements apart). THE CARD IS WHAT COUNTS. Prove the row's statement (the work); the ties are given (YtgcapkkgminidaaDoorTie.lean); close each card by the builder's one call (the guide's Derived/Test/ToyasCard.lean, 'card_holds'). Laid BY PROGRAM, IN A SANDBOX (cutbox-door.mjs). By AI agents, Wed Nov 11 2026. No macro, syntax, notation, axiom, sorry.
-/
import Derived.Test.YtgcapkkgminidaaDoorRows
import GoSem.ClaimSeven
namespace Go.Proofs.YtgcapkkgminidaaDoor
namespace Rows

/-- THE TIED CARD OF 'wherrylaw.TextInverts'. -/
def textInvertsCard : Claim7 := { stood := { row := textInvertsRow, standIns := [], harness := (true, "8a8f6c8decb4972bf7d867ed530ff855b806772f3a939a8bde65b8d9e908f542"), looks := false }, kinds := [], alts := [], laidByText := true, laidKinds := [.data, .pinned], laidTests := true, laidLooks := .later }
def TextInvertsCardSaid : Prop := Claim7.holds Tryd.pinned (.plain (OpenSpec.ofChange textInvertsSpec)) textInvertsCard

/-- THE TIED CARD OF 'wherrylaw.TextComposes'. -/
def textComposesCard : Claim7 := { stood := { row := textComposesRow, standIns := [], harness := (true, "8a8f6c8decb4972bf7d867ed530ff855b806772f3a939a8bde65b8d9e908f542"), looks := false }, kinds := [], alts := [], laidByText := true, laidKinds := [.data, .pinned], laidTests := true, laidLooks := .later }
def TextComposesCardSaid : Prop := Claim7.holds Tryd.pinned (.plain (OpenSpec.ofChange textComposesSpec)) textComposesCard

/-- THE TIED CARD OF 'wherrylaw.TextTransforms'. -/
def textTransformsCard : Claim7 := { stood := { row := textTransformsRow, standIns := [], harness := (true, "8a8f6c8decb4972bf7d867ed530ff855b806772f3a939a8bde65b8d9e908f542"), looks := false }, kinds := [], alts := [], laidByText := true, laidKinds := [.data, .pinned], laidTests := true, laidLooks := .later }
def TextTransformsCardSaid : Prop := Claim7.holds Tryd.pinned (.plain (OpenSpec.ofChange textTransformsSpec)) textTransformsCard

/-- THE TIED CARD OF 'wherrylaw.LinkHears'. -/
def linkHearsCard : Claim7 := { stood := { row := linkHearsRow, standIns := [], harness := (true, "8a8f6c8decb4972bf7d867ed530ff855b806772f3a939a8bde65b8d9e908f542"), looks := false }, kinds := [], alts := [], laidByText := true, laidKinds := [.data, .pinned], laidTests := true, laidLooks := .later }
def LinkHearsCardSaid : Prop := Claim7.holds Tryd.pinned (.plain (OpenSpec.ofChange linkHearsSpec)) linkHearsCard

/-- THE TIED CARD OF 'wherrylaw.NodeChecks'. -/
def nodeChecksCard : Claim7 := { stood := { row := nodeChecksRow, standIns := [], harness := (true, "8a8f6c8decb4972bf7d867ed530ff855b806772f3a939a8bde65b8d9e908f542"), looks := false }, kinds := [], alts := [], laidByText := true, laidKinds := [.data, .pinned], laidTests := true, laidLooks := .later }
def NodeChecksCardSaid : Prop := Claim7.holds Tryd.pinned (.plain (OpenSpec.ofChange nodeChecksSpec)) nodeChecksCard

/-- THE TIED CARD OF 'wherrylaw.NodeBegins'. -/
def nodeBeginsCard : Claim7 := { stood := { row := nodeBeginsRow, standIns := [], harness := (true, "8a8f6c8decb4972bf7d867ed530ff855b806772f3a939a8bde65b8d9e908f542"), looks := false }, kinds := [], alts := [], laidByText := true, laidKinds := [.data, .pinned], laidTests := true, laidLooks := .later }
def NodeBeginsCardSaid : Prop := Claim7.holds Tryd.pinned (.plain (OpenSpec.ofChange nodeBeginsSpec)) nodeBeginsCard

/-- THE TIED CARD OF 'wherrylaw.EdgeHears'. -/
def edgeHearsCard : Claim7 := { stood := { row := edgeHearsRow, standIns := [], harness := (true, "8a8f6c8decb4972bf7d867ed530ff855b806772f3a939a8bde65b8d9e908f542"), looks := false }, kinds := [], alts := [], laidByText := true, laidKinds := [.data, .pinned], laidTests := true, laidLooks := .later }
def EdgeHearsCardSaid : Prop := Claim7.holds Tryd.pinned (.plain (OpenSpec.ofChange edgeHearsSpec)) edgeHearsCard

/-- THE TIED CARD OF 'wherrylaw.NodeSelects'. -/
def nodeSelectsCard : Claim7 := { stood := { row := nodeSelectsRow, standIns := [], harness := (true, "8a8f6c8decb4972bf7d867ed530ff855b806772f3a939a8bde65b8d9e908f542"), looks := false }, kinds := [], alts := [], laidByText := true, laidKinds := [.data, .pinned], laidTests := true, laidLooks := .later }
def NodeSelectsCardSaid : Prop := Claim7.holds Tryd.pinned (.plain (OpenSpec.ofChange nodeSelectsSpec)) nodeSelectsCard

/-- THE TIED CARD OF 'wherrylaw.NodeTicks'. -/
def nodeTicksCard : Claim7 := { stood := { row := nodeTicksRow, standIns := [], harness := (true, "8a8f6c8decb4972bf7d867ed530ff855b806772f3a939a8bde65b8d9e908f542"), looks := false }, kinds := [], alts := [], laidByText := true, laidKinds := [.data, .pinned], laidTests := true, laidLooks := .later }
def NodeTicksCardSaid : Prop := Claim7.holds Tryd.pinned (.plain (OpenSpec.ofChange nodeTicksSpec)) nodeTicksCard

/-- THE SECOND FORM's CARD OF 'wherrylaw.TextInverts'. -/
def textInvertsUptoCard : Claim7 := { stood := { row := textInvertsUptoRow, standIns := [], harness := (true, "8a8f6c8decb4972bf7d867ed530ff855b806772f3a939a8bde65b8d9e908f542"), looks := false }, kinds := [], alts := [], laidByText := true, laidKinds := [.data, .pinned], laidTests := true, laidLooks := .later }
def TextInvertsUptoCardSaid : Prop := Claim7.holds Tryd.pinned (.plain (OpenSpec.upto textInvertsSpec)) textInvertsUptoCard

/-- THE SECOND FORM's CARD OF 'wherrylaw.TextComposes'. -/
def textComposesUptoCard : Claim7 := { stood := { row := textComposesUptoRow, standIns := [], harness := (true, "8a8f6c8decb4972bf7d867ed530ff855b806772f3a939a8bde65b8d9e908f542"), looks := false }, kinds := [], alts := [], laidByText := true, laidKinds := [.data, .pinned], laidTests := true, laidLooks := .later }
def TextComposesUptoCardSaid : Prop := Claim7.holds Tryd.pinned (.plain (OpenSpec.upto textComposesSpec)) textComposesUptoCard

/-- THE SECOND FORM's CARD OF 'wherrylaw.TextTransforms'. -/
def textTransformsUptoCard : Claim7 := { stood := { row := textTransformsUptoRow, standIns := [], harness := (true, "8a8f6c8decb4972bf7d867ed530ff855b806772f3a939a8bde65b8d9e908f542"), looks := false }, kinds := [], alts := [], laidByText := true, laidKinds := [.data, .pinned], laidTests := true, laidLooks := .later }
def TextTransformsUptoCardSaid : Prop := Claim7.holds Tryd.pinned (.plain (OpenSpec.upto textTransformsSpec)) textTransformsUptoCard

/-- THE SECOND FORM's CARD OF 'wherrylaw.LinkHears'. -/
def linkHearsUptoCard : Claim7 := { stood := { row := linkHearsUptoRow, standIns := [], harness := (true, "8a8f6c8decb4972bf7d867ed530ff855b806772f3a939a8bde65b8d9e908f542"), looks := false }, kinds := [], alts := [], laidByText := true, laidKinds := [.data, .pinned], laidTests := true, laidLooks := .later }
def LinkHearsUptoCardSaid : Prop := Claim7.holds Tryd.pinned (.plain (OpenSpec.upto linkHearsSpec)) linkHearsUptoCard

/-- THE SECOND FORM's CARD OF 'wherrylaw.NodeChecks'. -/
def nodeChecksUptoCard : Claim7 := { stood := { row := nodeChecksUptoRow, standIns := [], harness := (true, "8a8f6c8decb4972bf7d867ed530ff855b806772f3a939a8bde65b8d9e908f542"), looks := false }, kinds := [], alts := [], laidByText := true, laidKinds := [.data, .pinned], laidTests := true, laidLooks := .later }
def NodeChecksUptoCardSaid : Prop := Claim7.holds Tryd.pinned (.plain (OpenSpec.upto nodeChecksSpec)) nodeChecksUptoCard

/-- THE SECOND FORM's CARD OF 'wherrylaw.NodeBegins'. -/
def nodeBeginsUptoCard : Claim7 := { stood := { row := nodeBeginsUptoRow, standIns := [], harness := (true, "8a8f6c8decb4972bf7d867ed530ff855b806772f3a939a8bde65b8d9e908f542"), looks := false }, kinds := [], alts := [], laidByText := true, laidKinds := [.data, .pinned], laidTests := true, laidLooks := .later }
def NodeBeginsUptoCardSaid : Prop := Claim7.holds Tryd.pinned (.plain (OpenSpec.upto nodeBeginsSpec)) nodeBeginsUptoCard

/-- THE SECOND FORM's CARD OF 'wherrylaw.EdgeHears'. -/
def edgeHearsUptoCard : Claim7 := { stood := { row := edgeHearsUptoRow, standIns := [], harness := (true, "8a8f6c8decb4972bf7d867ed530ff855b806772f3a939a8bde65b8d9e908f542"), looks := false }, kinds := [], alts := [], laidByText := true, laidKinds := [.data, .pinned], laidTests := true, laidLooks := .later }
def EdgeHearsUptoCardSaid : Prop := Claim7.holds Tryd.pinned (.plain (OpenSpec.upto edgeHearsSpec)) edgeHearsUptoCard

/-- THE SECOND FORM's CARD OF 'wherrylaw.NodeSelects'. -/
def nodeSelectsUptoCard : Claim7 := { stood := { row := nodeSelectsUptoRow, standIns := [], harness := (true, "8a8f6c8decb4972bf7d867ed530ff855b806772f3a939a8bde65b8d9e908f542"), looks := false }, kinds := [], alts := [], laidByText := true, laidKinds := [.data, .pinned], laidTests := true, laidLooks := .later }
def NodeSelectsUptoCardSaid : Prop := Claim7.holds Tryd.pinned (.plain (OpenSpec.upto nodeSelectsSpec)) nodeSelectsUptoCard

/-- THE SECOND FORM's CARD OF 'wherrylaw.NodeTicks'. -/
def nodeTicksUptoCard : Claim7 := { stood := { row := nodeTicksUptoRow, standIns := [], harness := (true, "8a8f6c8decb4972bf7d867ed530ff855b806772f3a939a8bde65b8d9e908f542"), looks := false }, kinds := [], alts := [], laidByText := true, laidKinds := [.data, .pinned], laidTests := true, laidLooks := .later }
def NodeTicksUptoCardSaid : Prop := Claim7.holds Tryd.pinned (.plain (OpenSpec.upto nodeTicksSpec)) nodeTicksUptoCard
end Rows
end Go.Proofs.YtgcapkkgminidaaDoor
