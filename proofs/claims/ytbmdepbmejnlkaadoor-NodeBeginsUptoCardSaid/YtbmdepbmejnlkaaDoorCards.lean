/-
  DERIVED. GIVEN WITH THE SEED: THE CARDS: each row of YtbmdepbmejnlkaaDoorRows.lean that lists a variable, with what it lists TIED to the program's text (the seventh form; the later family's looks); each row that meets fmt, with fmt's text TOLD by the authors' own Lean function (tested against real Go, not proved from fmt's source: count such statements apart). THE CARD IS WHAT COUNTS. Prove the row's statement (the work); the ties are given (YtbmdepbmejnlkaaDoorTie.lean); close each card by the builder's one call (the guide's Derived/Test/ToyasCard.lean, 'card_holds'). Laid BY PROGRAM, IN A SANDBOX (cutbox-door.mjs). By AI agents, Wed Nov 11 2026. No macro, syntax, notation, axiom, sorry.
-/
import Derived.Test.YtbmdepbmejnlkaaDoorRows
import GoSem.ClaimSeven
namespace Go.Proofs.YtbmdepbmejnlkaaDoor
namespace Rows

/-- THE TIED CARD OF 'wherrylaw.NodeChecks'. -/
def nodeChecksCard : Claim7 := { stood := { row := nodeChecksRow, standIns := [], harness := (true, "e5c91d20509dae5976c01e0ae82dba73b398342e79b6f6a244ed646f034bb334"), looks := false }, kinds := [], alts := [], laidByText := true, laidKinds := [.data, .pinned], laidTests := true, laidLooks := .later }
def NodeChecksCardSaid : Prop := Claim7.holds Tryd.pinned (.plain (OpenSpec.ofChange nodeChecksSpec)) nodeChecksCard

/-- THE TIED CARD OF 'wherrylaw.NodeBegins'. -/
def nodeBeginsCard : Claim7 := { stood := { row := nodeBeginsRow, standIns := [], harness := (true, "e5c91d20509dae5976c01e0ae82dba73b398342e79b6f6a244ed646f034bb334"), looks := false }, kinds := [], alts := [], laidByText := true, laidKinds := [.data, .pinned], laidTests := true, laidLooks := .later }
def NodeBeginsCardSaid : Prop := Claim7.holds Tryd.pinned (.plain (OpenSpec.ofChange nodeBeginsSpec)) nodeBeginsCard

/-- THE TIED CARD OF 'wherrylaw.EdgeHears'. -/
def edgeHearsCard : Claim7 := { stood := { row := edgeHearsRow, standIns := [], harness := (true, "e5c91d20509dae5976c01e0ae82dba73b398342e79b6f6a244ed646f034bb334"), looks := false }, kinds := [], alts := [], laidByText := true, laidKinds := [.data, .pinned], laidTests := true, laidLooks := .later }
def EdgeHearsCardSaid : Prop := Claim7.holds Tryd.pinned (.plain (OpenSpec.ofChange edgeHearsSpec)) edgeHearsCard

/-- THE TIED CARD OF 'wherrylaw.NodeSelects'. -/
def nodeSelectsCard : Claim7 := { stood := { row := nodeSelectsRow, standIns := [], harness := (true, "e5c91d20509dae5976c01e0ae82dba73b398342e79b6f6a244ed646f034bb334"), looks := false }, kinds := [], alts := [], laidByText := true, laidKinds := [.data, .pinned], laidTests := true, laidLooks := .later }
def NodeSelectsCardSaid : Prop := Claim7.holds Tryd.pinned (.plain (OpenSpec.ofChange nodeSelectsSpec)) nodeSelectsCard

/-- THE TIED CARD OF 'wherrylaw.NodeTicks'. -/
def nodeTicksCard : Claim7 := { stood := { row := nodeTicksRow, standIns := [], harness := (true, "e5c91d20509dae5976c01e0ae82dba73b398342e79b6f6a244ed646f034bb334"), looks := false }, kinds := [], alts := [], laidByText := true, laidKinds := [.data, .pinned], laidTests := true, laidLooks := .later }
def NodeTicksCardSaid : Prop := Claim7.holds Tryd.pinned (.plain (OpenSpec.ofChange nodeTicksSpec)) nodeTicksCard

/-- THE SECOND FORM's CARD OF 'wherrylaw.NodeChecks'. -/
def nodeChecksUptoCard : Claim7 := { stood := { row := nodeChecksUptoRow, standIns := [], harness := (true, "e5c91d20509dae5976c01e0ae82dba73b398342e79b6f6a244ed646f034bb334"), looks := false }, kinds := [], alts := [], laidByText := true, laidKinds := [.data, .pinned], laidTests := true, laidLooks := .later }
def NodeChecksUptoCardSaid : Prop := Claim7.holds Tryd.pinned (.plain (OpenSpec.upto nodeChecksSpec)) nodeChecksUptoCard

/-- THE SECOND FORM's CARD OF 'wherrylaw.NodeBegins'. -/
def nodeBeginsUptoCard : Claim7 := { stood := { row := nodeBeginsUptoRow, standIns := [], harness := (true, "e5c91d20509dae5976c01e0ae82dba73b398342e79b6f6a244ed646f034bb334"), looks := false }, kinds := [], alts := [], laidByText := true, laidKinds := [.data, .pinned], laidTests := true, laidLooks := .later }
def NodeBeginsUptoCardSaid : Prop := Claim7.holds Tryd.pinned (.plain (OpenSpec.upto nodeBeginsSpec)) nodeBeginsUptoCard

/-- THE SECOND FORM's CARD OF 'wherrylaw.EdgeHears'. -/
def edgeHearsUptoCard : Claim7 := { stood := { row := edgeHearsUptoRow, standIns := [], harness := (true, "e5c91d20509dae5976c01e0ae82dba73b398342e79b6f6a244ed646f034bb334"), looks := false }, kinds := [], alts := [], laidByText := true, laidKinds := [.data, .pinned], laidTests := true, laidLooks := .later }
def EdgeHearsUptoCardSaid : Prop := Claim7.holds Tryd.pinned (.plain (OpenSpec.upto edgeHearsSpec)) edgeHearsUptoCard

/-- THE SECOND FORM's CARD OF 'wherrylaw.NodeSelects'. -/
def nodeSelectsUptoCard : Claim7 := { stood := { row := nodeSelectsUptoRow, standIns := [], harness := (true, "e5c91d20509dae5976c01e0ae82dba73b398342e79b6f6a244ed646f034bb334"), looks := false }, kinds := [], alts := [], laidByText := true, laidKinds := [.data, .pinned], laidTests := true, laidLooks := .later }
def NodeSelectsUptoCardSaid : Prop := Claim7.holds Tryd.pinned (.plain (OpenSpec.upto nodeSelectsSpec)) nodeSelectsUptoCard

/-- THE SECOND FORM's CARD OF 'wherrylaw.NodeTicks'. -/
def nodeTicksUptoCard : Claim7 := { stood := { row := nodeTicksUptoRow, standIns := [], harness := (true, "e5c91d20509dae5976c01e0ae82dba73b398342e79b6f6a244ed646f034bb334"), looks := false }, kinds := [], alts := [], laidByText := true, laidKinds := [.data, .pinned], laidTests := true, laidLooks := .later }
def NodeTicksUptoCardSaid : Prop := Claim7.holds Tryd.pinned (.plain (OpenSpec.upto nodeTicksSpec)) nodeTicksUptoCard
end Rows
end Go.Proofs.YtbmdepbmejnlkaaDoor
