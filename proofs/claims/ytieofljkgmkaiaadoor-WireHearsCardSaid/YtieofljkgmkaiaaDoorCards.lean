/-
  DERIVED. GIVEN WITH THE SEED: THE CARDS: each row of YtieofljkgmkaiaaDoorRows.lean that lists a variable, with what it lists TIED to the program's text (the seventh form; the later family's looks); each row that meets fmt, with fmt's text TOLD by the authors' own Lean function (tested against real Go, not proved from fmt's source: count such statements apart). THE CARD IS WHAT COUNTS. Prove the row's statement (the work); the ties are given (YtieofljkgmkaiaaDoorTie.lean); close each card by the builder's one call (the guide's Derived/Test/ToyasCard.lean, 'card_holds'). Laid BY PROGRAM, IN A SANDBOX (cutbox-door.mjs). By AI agents, Wed Nov 11 2026. No macro, syntax, notation, axiom, sorry.
-/
import Derived.Test.YtieofljkgmkaiaaDoorRows
import GoSem.ClaimSeven
namespace Go.Proofs.YtieofljkgmkaiaaDoor
namespace Rows

/-- THE TIED CARD OF 'wherrylaw.LinkTicks'. -/
def linkTicksCard : Claim7 := { stood := { row := linkTicksRow, standIns := [], harness := (true, "0615599c5e9f0f8cc52569eb583d3c0b3a92caa04a732b5b3380aa45f6c0ce32"), looks := false }, kinds := [], alts := [], laidByText := true, laidKinds := [.data, .pinned], laidTests := true, laidLooks := .later }
def LinkTicksCardSaid : Prop := Claim7.holds Tryd.pinned (.plain (OpenSpec.ofChange linkTicksSpec)) linkTicksCard

/-- THE TIED CARD OF 'wherrylaw.LinkSends'. -/
def linkSendsCard : Claim7 := { stood := { row := linkSendsRow, standIns := [], harness := (true, "0615599c5e9f0f8cc52569eb583d3c0b3a92caa04a732b5b3380aa45f6c0ce32"), looks := false }, kinds := [], alts := [], laidByText := true, laidKinds := [.data, .pinned], laidTests := true, laidLooks := .later }
def LinkSendsCardSaid : Prop := Claim7.holds Tryd.pinned (.plain (OpenSpec.ofChange linkSendsSpec)) linkSendsCard

/-- THE TIED CARD OF 'wherrylaw.TextInverts'. -/
def textInvertsCard : Claim7 := { stood := { row := textInvertsRow, standIns := [], harness := (true, "0615599c5e9f0f8cc52569eb583d3c0b3a92caa04a732b5b3380aa45f6c0ce32"), looks := false }, kinds := [], alts := [], laidByText := true, laidKinds := [.data, .pinned], laidTests := true, laidLooks := .later }
def TextInvertsCardSaid : Prop := Claim7.holds Tryd.pinned (.plain (OpenSpec.ofChange textInvertsSpec)) textInvertsCard

/-- THE TIED CARD OF 'wherrylaw.TextComposes'. -/
def textComposesCard : Claim7 := { stood := { row := textComposesRow, standIns := [], harness := (true, "0615599c5e9f0f8cc52569eb583d3c0b3a92caa04a732b5b3380aa45f6c0ce32"), looks := false }, kinds := [], alts := [], laidByText := true, laidKinds := [.data, .pinned], laidTests := true, laidLooks := .later }
def TextComposesCardSaid : Prop := Claim7.holds Tryd.pinned (.plain (OpenSpec.ofChange textComposesSpec)) textComposesCard

/-- THE TIED CARD OF 'wherrylaw.TapeRecovers'. -/
def tapeRecoversCard : Claim7 := { stood := { row := tapeRecoversRow, standIns := [], harness := (true, "0615599c5e9f0f8cc52569eb583d3c0b3a92caa04a732b5b3380aa45f6c0ce32"), looks := false }, kinds := [], alts := [], laidByText := true, laidKinds := [.data, .pinned], laidTests := true, laidLooks := .later }
def TapeRecoversCardSaid : Prop := Claim7.holds Tryd.pinned (.plain (OpenSpec.ofChange tapeRecoversSpec)) tapeRecoversCard

/-- THE TIED CARD OF 'wherrylaw.TextTransforms'. -/
def textTransformsCard : Claim7 := { stood := { row := textTransformsRow, standIns := [], harness := (true, "0615599c5e9f0f8cc52569eb583d3c0b3a92caa04a732b5b3380aa45f6c0ce32"), looks := false }, kinds := [], alts := [], laidByText := true, laidKinds := [.data, .pinned], laidTests := true, laidLooks := .later }
def TextTransformsCardSaid : Prop := Claim7.holds Tryd.pinned (.plain (OpenSpec.ofChange textTransformsSpec)) textTransformsCard

/-- THE TIED CARD OF 'wherrylaw.LinkHears'. -/
def linkHearsCard : Claim7 := { stood := { row := linkHearsRow, standIns := [], harness := (true, "0615599c5e9f0f8cc52569eb583d3c0b3a92caa04a732b5b3380aa45f6c0ce32"), looks := false }, kinds := [], alts := [], laidByText := true, laidKinds := [.data, .pinned], laidTests := true, laidLooks := .later }
def LinkHearsCardSaid : Prop := Claim7.holds Tryd.pinned (.plain (OpenSpec.ofChange linkHearsSpec)) linkHearsCard

/-- THE TIED CARD OF 'wherrylaw.WireHears'. -/
def wireHearsCard : Claim7 := { stood := { row := wireHearsRow, standIns := [], harness := (true, "0615599c5e9f0f8cc52569eb583d3c0b3a92caa04a732b5b3380aa45f6c0ce32"), looks := false }, kinds := [], alts := [], laidByText := true, laidKinds := [.data, .pinned], laidTests := true, laidLooks := .later }
def WireHearsCardSaid : Prop := Claim7.holds Tryd.pinned (.plain (OpenSpec.ofChange wireHearsSpec)) wireHearsCard

/-- THE TIED CARD OF 'wherrylaw.NodeChecks'. -/
def nodeChecksCard : Claim7 := { stood := { row := nodeChecksRow, standIns := [], harness := (true, "0615599c5e9f0f8cc52569eb583d3c0b3a92caa04a732b5b3380aa45f6c0ce32"), looks := false }, kinds := [], alts := [], laidByText := true, laidKinds := [.data, .pinned], laidTests := true, laidLooks := .later }
def NodeChecksCardSaid : Prop := Claim7.holds Tryd.pinned (.plain (OpenSpec.ofChange nodeChecksSpec)) nodeChecksCard

/-- THE TIED CARD OF 'wherrylaw.NodeBegins'. -/
def nodeBeginsCard : Claim7 := { stood := { row := nodeBeginsRow, standIns := [], harness := (true, "0615599c5e9f0f8cc52569eb583d3c0b3a92caa04a732b5b3380aa45f6c0ce32"), looks := false }, kinds := [], alts := [], laidByText := true, laidKinds := [.data, .pinned], laidTests := true, laidLooks := .later }
def NodeBeginsCardSaid : Prop := Claim7.holds Tryd.pinned (.plain (OpenSpec.ofChange nodeBeginsSpec)) nodeBeginsCard

/-- THE TIED CARD OF 'wherrylaw.EdgeHears'. -/
def edgeHearsCard : Claim7 := { stood := { row := edgeHearsRow, standIns := [], harness := (true, "0615599c5e9f0f8cc52569eb583d3c0b3a92caa04a732b5b3380aa45f6c0ce32"), looks := false }, kinds := [], alts := [], laidByText := true, laidKinds := [.data, .pinned], laidTests := true, laidLooks := .later }
def EdgeHearsCardSaid : Prop := Claim7.holds Tryd.pinned (.plain (OpenSpec.ofChange edgeHearsSpec)) edgeHearsCard

/-- THE SECOND FORM's CARD OF 'wherrylaw.LinkTicks'. -/
def linkTicksUptoCard : Claim7 := { stood := { row := linkTicksUptoRow, standIns := [], harness := (true, "0615599c5e9f0f8cc52569eb583d3c0b3a92caa04a732b5b3380aa45f6c0ce32"), looks := false }, kinds := [], alts := [], laidByText := true, laidKinds := [.data, .pinned], laidTests := true, laidLooks := .later }
def LinkTicksUptoCardSaid : Prop := Claim7.holds Tryd.pinned (.plain (OpenSpec.upto linkTicksSpec)) linkTicksUptoCard

/-- THE SECOND FORM's CARD OF 'wherrylaw.LinkSends'. -/
def linkSendsUptoCard : Claim7 := { stood := { row := linkSendsUptoRow, standIns := [], harness := (true, "0615599c5e9f0f8cc52569eb583d3c0b3a92caa04a732b5b3380aa45f6c0ce32"), looks := false }, kinds := [], alts := [], laidByText := true, laidKinds := [.data, .pinned], laidTests := true, laidLooks := .later }
def LinkSendsUptoCardSaid : Prop := Claim7.holds Tryd.pinned (.plain (OpenSpec.upto linkSendsSpec)) linkSendsUptoCard

/-- THE SECOND FORM's CARD OF 'wherrylaw.TextInverts'. -/
def textInvertsUptoCard : Claim7 := { stood := { row := textInvertsUptoRow, standIns := [], harness := (true, "0615599c5e9f0f8cc52569eb583d3c0b3a92caa04a732b5b3380aa45f6c0ce32"), looks := false }, kinds := [], alts := [], laidByText := true, laidKinds := [.data, .pinned], laidTests := true, laidLooks := .later }
def TextInvertsUptoCardSaid : Prop := Claim7.holds Tryd.pinned (.plain (OpenSpec.upto textInvertsSpec)) textInvertsUptoCard

/-- THE SECOND FORM's CARD OF 'wherrylaw.TextComposes'. -/
def textComposesUptoCard : Claim7 := { stood := { row := textComposesUptoRow, standIns := [], harness := (true, "0615599c5e9f0f8cc52569eb583d3c0b3a92caa04a732b5b3380aa45f6c0ce32"), looks := false }, kinds := [], alts := [], laidByText := true, laidKinds := [.data, .pinned], laidTests := true, laidLooks := .later }
def TextComposesUptoCardSaid : Prop := Claim7.holds Tryd.pinned (.plain (OpenSpec.upto textComposesSpec)) textComposesUptoCard

/-- THE SECOND FORM's CARD OF 'wherrylaw.TapeRecovers'. -/
def tapeRecoversUptoCard : Claim7 := { stood := { row := tapeRecoversUptoRow, standIns := [], harness := (true, "0615599c5e9f0f8cc52569eb583d3c0b3a92caa04a732b5b3380aa45f6c0ce32"), looks := false }, kinds := [], alts := [], laidByText := true, laidKinds := [.data, .pinned], laidTests := true, laidLooks := .later }
def TapeRecoversUptoCardSaid : Prop := Claim7.holds Tryd.pinned (.plain (OpenSpec.upto tapeRecoversSpec)) tapeRecoversUptoCard

/-- THE SECOND FORM's CARD OF 'wherrylaw.TextTransforms'. -/
def textTransformsUptoCard : Claim7 := { stood := { row := textTransformsUptoRow, standIns := [], harness := (true, "0615599c5e9f0f8cc52569eb583d3c0b3a92caa04a732b5b3380aa45f6c0ce32"), looks := false }, kinds := [], alts := [], laidByText := true, laidKinds := [.data, .pinned], laidTests := true, laidLooks := .later }
def TextTransformsUptoCardSaid : Prop := Claim7.holds Tryd.pinned (.plain (OpenSpec.upto textTransformsSpec)) textTransformsUptoCard

/-- THE SECOND FORM's CARD OF 'wherrylaw.LinkHears'. -/
def linkHearsUptoCard : Claim7 := { stood := { row := linkHearsUptoRow, standIns := [], harness := (true, "0615599c5e9f0f8cc52569eb583d3c0b3a92caa04a732b5b3380aa45f6c0ce32"), looks := false }, kinds := [], alts := [], laidByText := true, laidKinds := [.data, .pinned], laidTests := true, laidLooks := .later }
def LinkHearsUptoCardSaid : Prop := Claim7.holds Tryd.pinned (.plain (OpenSpec.upto linkHearsSpec)) linkHearsUptoCard

/-- THE SECOND FORM's CARD OF 'wherrylaw.WireHears'. -/
def wireHearsUptoCard : Claim7 := { stood := { row := wireHearsUptoRow, standIns := [], harness := (true, "0615599c5e9f0f8cc52569eb583d3c0b3a92caa04a732b5b3380aa45f6c0ce32"), looks := false }, kinds := [], alts := [], laidByText := true, laidKinds := [.data, .pinned], laidTests := true, laidLooks := .later }
def WireHearsUptoCardSaid : Prop := Claim7.holds Tryd.pinned (.plain (OpenSpec.upto wireHearsSpec)) wireHearsUptoCard

/-- THE SECOND FORM's CARD OF 'wherrylaw.NodeChecks'. -/
def nodeChecksUptoCard : Claim7 := { stood := { row := nodeChecksUptoRow, standIns := [], harness := (true, "0615599c5e9f0f8cc52569eb583d3c0b3a92caa04a732b5b3380aa45f6c0ce32"), looks := false }, kinds := [], alts := [], laidByText := true, laidKinds := [.data, .pinned], laidTests := true, laidLooks := .later }
def NodeChecksUptoCardSaid : Prop := Claim7.holds Tryd.pinned (.plain (OpenSpec.upto nodeChecksSpec)) nodeChecksUptoCard

/-- THE SECOND FORM's CARD OF 'wherrylaw.NodeBegins'. -/
def nodeBeginsUptoCard : Claim7 := { stood := { row := nodeBeginsUptoRow, standIns := [], harness := (true, "0615599c5e9f0f8cc52569eb583d3c0b3a92caa04a732b5b3380aa45f6c0ce32"), looks := false }, kinds := [], alts := [], laidByText := true, laidKinds := [.data, .pinned], laidTests := true, laidLooks := .later }
def NodeBeginsUptoCardSaid : Prop := Claim7.holds Tryd.pinned (.plain (OpenSpec.upto nodeBeginsSpec)) nodeBeginsUptoCard

/-- THE SECOND FORM's CARD OF 'wherrylaw.EdgeHears'. -/
def edgeHearsUptoCard : Claim7 := { stood := { row := edgeHearsUptoRow, standIns := [], harness := (true, "0615599c5e9f0f8cc52569eb583d3c0b3a92caa04a732b5b3380aa45f6c0ce32"), looks := false }, kinds := [], alts := [], laidByText := true, laidKinds := [.data, .pinned], laidTests := true, laidLooks := .later }
def EdgeHearsUptoCardSaid : Prop := Claim7.holds Tryd.pinned (.plain (OpenSpec.upto edgeHearsSpec)) edgeHearsUptoCard
end Rows
end Go.Proofs.YtieofljkgmkaiaaDoor
