/-
  NARROWER THAN 'FOR EVERY INPUT', by the rows' own cells (each row's printed sentence says how): TextMoves: laid · LinesChecks: laid · LinkChecks: laid · EdgeSends: laid · LinkTicks: laid · WireSends: laid · WireReads: laid · TapeAppends: laid · LinkSends: laid · TextInverts: laid · TextComposes: laid · TapeRecovers: laid · TextTransforms: laid · LinkHears: laid · WireHears: laid · NodeChecks: laid.
  DERIVED. THE GIVEN ROWS OF THIS SEAT. 16 by the template 'for every input the law returns true; each argument reads behind the call as it read before'; 0 by the template 'total and deterministic' (their statements: YtiooimnlkcpnnaaDoorTotals.lean).
  GIVEN WITH THE SEED: the statements are not yours to turn. If you find one false, say at which input.
  Laid BY PROGRAM, IN A SANDBOX (cutbox-rows.mjs): the forced cells as the released guide's own fill.sh prints them over the translation feb667dfc54c9150… (all of the seat's roots in one cut). By AI agents, Wed Nov 11 2026. No macro, syntax, notation, axiom, sorry.
-/
import Derived.Test.YtiooimnlkcpnnaaDoorChecked
import GoSem.PinnedTables
import GoSem.Claim
import GoSem.ClaimJoined
import GoSem.ClaimMapViews
import Derived.JoinedTies
import Derived.KernelRfl
namespace Go.Proofs.YtiooimnlkcpnnaaDoor
/- THE CELL 'sum', in the pinned program and in every row, IS THE sha256 OF THE DUMP (.gsa) THAT YtiooimnlkcpnnaaDoorProg.lean LOADS. Nothing in Lean hashes anything: it is a label: what it is worth is what the hold of that sum in a sandbox is worth. -/
noncomputable def Tryd.pinned : Pinned := { name := "ytiooimnlkcpnnaadoor", sum := "feb667dfc54c9150c5550a0d8bd40a00d8684dd93b3f1ec7409dd7228b438563", checked := Tryd.checked }
namespace Rows
def none {H : Type} : Left H := { results := [], args := [] }

/- WHAT THE LISTED PACKAGE-LEVEL VARIABLES READ AS WHEN THE CALL BEGINS. Each datum BY PROGRAM (the guide's laid-datum.mjs) off the statement by which the dump's own 'gosem.cut.vars' lays the variable. In a bare row this is a premise. The card (YtiooimnlkcpnnaaDoorCards.lean) ties it to the program's text. -/
def laid_unicode_utf8_acceptRanges {H : Type} : DataW H := .agg [.agg [.lit (.int .u8 128), .lit (.int .u8 191)], .agg [.lit (.int .u8 160), .lit (.int .u8 191)], .agg [.lit (.int .u8 128), .lit (.int .u8 159)], .agg [.lit (.int .u8 144), .lit (.int .u8 191)], .agg [.lit (.int .u8 128), .lit (.int .u8 143)], .agg [.lit (.int .u8 0), .lit (.int .u8 0)], .agg [.lit (.int .u8 0), .lit (.int .u8 0)], .agg [.lit (.int .u8 0), .lit (.int .u8 0)], .agg [.lit (.int .u8 0), .lit (.int .u8 0)], .agg [.lit (.int .u8 0), .lit (.int .u8 0)], .agg [.lit (.int .u8 0), .lit (.int .u8 0)], .agg [.lit (.int .u8 0), .lit (.int .u8 0)], .agg [.lit (.int .u8 0), .lit (.int .u8 0)], .agg [.lit (.int .u8 0), .lit (.int .u8 0)], .agg [.lit (.int .u8 0), .lit (.int .u8 0)], .agg [.lit (.int .u8 0), .lit (.int .u8 0)]]
/-- One of Go's own tables, pinned by name: the form's constant. -/
def laid_unicode_utf8_first : DataW Unit := Go.Pinned.utf8First

/-- 'wherrylaw.TextMoves': WHATEVER THE INPUT: true; the input reads as it did. -/
def textMovesSpec : ChangeSpec := { name := "textMoves", fn := fun _ => fun
  | [d1, d2, d3] => { results := [.lit (.bool true)], args := [d1, d2, d3] }
  | _ => none }
def textMovesRow : OpenClaim := { program := "ytiooimnlkcpnnaadoor", sum := "feb667dfc54c9150c5550a0d8bd40a00d8684dd93b3f1ec7409dd7228b438563", func := "wherry/wherrylaw.TextMoves", spec := "textMoves", named := ["unicode/utf8.first", "unicode/utf8.acceptRanges"], apart := false, laid := [("unicode/utf8.acceptRanges", laid_unicode_utf8_acceptRanges), ("unicode/utf8.first", laid_unicode_utf8_first)] }
def TextMovesSaid : Prop := textMovesRow.holds Tryd.pinned (OpenSpec.ofChange textMovesSpec)

/-- ITS FALSE NEIGHBOUR: 'it returns false'. Refute it at one input. -/
def textMovesWrong : ChangeSpec := { name := "textMoves", fn := fun _ => fun
  | [d1, d2, d3] => { results := [.lit (.bool false)], args := [d1, d2, d3] }
  | _ => none }
def TextMovesWrongFalsely : Prop := textMovesRow.holds Tryd.pinned (OpenSpec.ofChange textMovesWrong)

/-- 'wherrylaw.LinesChecks': WHATEVER THE INPUT: true; the input reads as it did. -/
def linesChecksSpec : ChangeSpec := { name := "linesChecks", fn := fun _ => fun
  | [d1, d2] => { results := [.lit (.bool true)], args := [d1, d2] }
  | _ => none }
def linesChecksRow : OpenClaim := { program := "ytiooimnlkcpnnaadoor", sum := "feb667dfc54c9150c5550a0d8bd40a00d8684dd93b3f1ec7409dd7228b438563", func := "wherry/wherrylaw.LinesChecks", spec := "linesChecks", named := ["unicode/utf8.first", "unicode/utf8.acceptRanges"], apart := false, laid := [("unicode/utf8.acceptRanges", laid_unicode_utf8_acceptRanges), ("unicode/utf8.first", laid_unicode_utf8_first)] }
def LinesChecksSaid : Prop := linesChecksRow.holds Tryd.pinned (OpenSpec.ofChange linesChecksSpec)

/-- ITS FALSE NEIGHBOUR: 'it returns false'. Refute it at one input. -/
def linesChecksWrong : ChangeSpec := { name := "linesChecks", fn := fun _ => fun
  | [d1, d2] => { results := [.lit (.bool false)], args := [d1, d2] }
  | _ => none }
def LinesChecksWrongFalsely : Prop := linesChecksRow.holds Tryd.pinned (OpenSpec.ofChange linesChecksWrong)

/-- 'wherrylaw.LinkChecks': WHATEVER THE INPUT: true; the input reads as it did. -/
def linkChecksSpec : ChangeSpec := { name := "linkChecks", fn := fun _ => fun
  | [d] => { results := [.lit (.bool true)], args := [d] }
  | _ => none }
def linkChecksRow : OpenClaim := { program := "ytiooimnlkcpnnaadoor", sum := "feb667dfc54c9150c5550a0d8bd40a00d8684dd93b3f1ec7409dd7228b438563", func := "wherry/wherrylaw.LinkChecks", spec := "linkChecks", unfollowed := true, recurses := true, named := ["unicode/utf8.first", "unicode/utf8.acceptRanges"], apart := false, laid := [("unicode/utf8.acceptRanges", laid_unicode_utf8_acceptRanges), ("unicode/utf8.first", laid_unicode_utf8_first)] }
def LinkChecksSaid : Prop := linkChecksRow.holds Tryd.pinned (OpenSpec.ofChange linkChecksSpec)

/-- ITS FALSE NEIGHBOUR: 'it returns false'. Refute it at one input. -/
def linkChecksWrong : ChangeSpec := { name := "linkChecks", fn := fun _ => fun
  | [d] => { results := [.lit (.bool false)], args := [d] }
  | _ => none }
def LinkChecksWrongFalsely : Prop := linkChecksRow.holds Tryd.pinned (OpenSpec.ofChange linkChecksWrong)

/-- 'wherrylaw.EdgeSends': WHATEVER THE INPUT: true; the input reads as it did. -/
def edgeSendsSpec : ChangeSpec := { name := "edgeSends", fn := fun _ => fun
  | [d1, d2] => { results := [.lit (.bool true)], args := [d1, d2] }
  | _ => none }
def edgeSendsRow : OpenClaim := { program := "ytiooimnlkcpnnaadoor", sum := "feb667dfc54c9150c5550a0d8bd40a00d8684dd93b3f1ec7409dd7228b438563", func := "wherry/wherrylaw.EdgeSends", spec := "edgeSends", named := ["unicode/utf8.first", "unicode/utf8.acceptRanges"], apart := false, laid := [("unicode/utf8.acceptRanges", laid_unicode_utf8_acceptRanges), ("unicode/utf8.first", laid_unicode_utf8_first)] }
def EdgeSendsSaid : Prop := edgeSendsRow.holds Tryd.pinned (OpenSpec.ofChange edgeSendsSpec)

/-- ITS FALSE NEIGHBOUR: 'it returns false'. Refute it at one input. -/
def edgeSendsWrong : ChangeSpec := { name := "edgeSends", fn := fun _ => fun
  | [d1, d2] => { results := [.lit (.bool false)], args := [d1, d2] }
  | _ => none }
def EdgeSendsWrongFalsely : Prop := edgeSendsRow.holds Tryd.pinned (OpenSpec.ofChange edgeSendsWrong)

/-- 'wherrylaw.LinkTicks': WHATEVER THE INPUT: true; the input reads as it did. -/
def linkTicksSpec : ChangeSpec := { name := "linkTicks", fn := fun _ => fun
  | [d] => { results := [.lit (.bool true)], args := [d] }
  | _ => none }
def linkTicksRow : OpenClaim := { program := "ytiooimnlkcpnnaadoor", sum := "feb667dfc54c9150c5550a0d8bd40a00d8684dd93b3f1ec7409dd7228b438563", func := "wherry/wherrylaw.LinkTicks", spec := "linkTicks", unfollowed := true, recurses := true, named := ["unicode/utf8.first", "unicode/utf8.acceptRanges"], apart := false, laid := [("unicode/utf8.acceptRanges", laid_unicode_utf8_acceptRanges), ("unicode/utf8.first", laid_unicode_utf8_first)] }
def LinkTicksSaid : Prop := linkTicksRow.holds Tryd.pinned (OpenSpec.ofChange linkTicksSpec)

/-- ITS FALSE NEIGHBOUR: 'it returns false'. Refute it at one input. -/
def linkTicksWrong : ChangeSpec := { name := "linkTicks", fn := fun _ => fun
  | [d] => { results := [.lit (.bool false)], args := [d] }
  | _ => none }
def LinkTicksWrongFalsely : Prop := linkTicksRow.holds Tryd.pinned (OpenSpec.ofChange linkTicksWrong)

/-- 'wherrylaw.WireSends': WHATEVER THE INPUT: true; the input reads as it did. -/
def wireSendsSpec : ChangeSpec := { name := "wireSends", fn := fun _ => fun
  | [d] => { results := [.lit (.bool true)], args := [d] }
  | _ => none }
def wireSendsRow : OpenClaim := { program := "ytiooimnlkcpnnaadoor", sum := "feb667dfc54c9150c5550a0d8bd40a00d8684dd93b3f1ec7409dd7228b438563", func := "wherry/wherrylaw.WireSends", spec := "wireSends", recurses := true, named := ["unicode/utf8.first", "unicode/utf8.acceptRanges"], apart := false, laid := [("unicode/utf8.acceptRanges", laid_unicode_utf8_acceptRanges), ("unicode/utf8.first", laid_unicode_utf8_first)] }
def WireSendsSaid : Prop := wireSendsRow.holds Tryd.pinned (OpenSpec.ofChange wireSendsSpec)

/-- ITS FALSE NEIGHBOUR: 'it returns false'. Refute it at one input. -/
def wireSendsWrong : ChangeSpec := { name := "wireSends", fn := fun _ => fun
  | [d] => { results := [.lit (.bool false)], args := [d] }
  | _ => none }
def WireSendsWrongFalsely : Prop := wireSendsRow.holds Tryd.pinned (OpenSpec.ofChange wireSendsWrong)

/-- 'wherrylaw.WireReads': WHATEVER THE INPUT: true; the input reads as it did. -/
def wireReadsSpec : ChangeSpec := { name := "wireReads", fn := fun _ => fun
  | [d] => { results := [.lit (.bool true)], args := [d] }
  | _ => none }
def wireReadsRow : OpenClaim := { program := "ytiooimnlkcpnnaadoor", sum := "feb667dfc54c9150c5550a0d8bd40a00d8684dd93b3f1ec7409dd7228b438563", func := "wherry/wherrylaw.WireReads", spec := "wireReads", named := ["unicode/utf8.first", "unicode/utf8.acceptRanges"], apart := false, laid := [("unicode/utf8.acceptRanges", laid_unicode_utf8_acceptRanges), ("unicode/utf8.first", laid_unicode_utf8_first)] }
def WireReadsSaid : Prop := wireReadsRow.holds Tryd.pinned (OpenSpec.ofChange wireReadsSpec)

/-- ITS FALSE NEIGHBOUR: 'it returns false'. Refute it at one input. -/
def wireReadsWrong : ChangeSpec := { name := "wireReads", fn := fun _ => fun
  | [d] => { results := [.lit (.bool false)], args := [d] }
  | _ => none }
def WireReadsWrongFalsely : Prop := wireReadsRow.holds Tryd.pinned (OpenSpec.ofChange wireReadsWrong)

/-- 'wherrylaw.TapeAppends': WHATEVER THE INPUT: true; the input reads as it did. -/
def tapeAppendsSpec : ChangeSpec := { name := "tapeAppends", fn := fun _ => fun
  | [d1, d2] => { results := [.lit (.bool true)], args := [d1, d2] }
  | _ => none }
def tapeAppendsRow : OpenClaim := { program := "ytiooimnlkcpnnaadoor", sum := "feb667dfc54c9150c5550a0d8bd40a00d8684dd93b3f1ec7409dd7228b438563", func := "wherry/wherrylaw.TapeAppends", spec := "tapeAppends", recurses := true, named := ["unicode/utf8.first", "unicode/utf8.acceptRanges"], apart := false, laid := [("unicode/utf8.acceptRanges", laid_unicode_utf8_acceptRanges), ("unicode/utf8.first", laid_unicode_utf8_first)] }
def TapeAppendsSaid : Prop := tapeAppendsRow.holds Tryd.pinned (OpenSpec.ofChange tapeAppendsSpec)

/-- ITS FALSE NEIGHBOUR: 'it returns false'. Refute it at one input. -/
def tapeAppendsWrong : ChangeSpec := { name := "tapeAppends", fn := fun _ => fun
  | [d1, d2] => { results := [.lit (.bool false)], args := [d1, d2] }
  | _ => none }
def TapeAppendsWrongFalsely : Prop := tapeAppendsRow.holds Tryd.pinned (OpenSpec.ofChange tapeAppendsWrong)

/-- 'wherrylaw.LinkSends': WHATEVER THE INPUT: true; the input reads as it did. -/
def linkSendsSpec : ChangeSpec := { name := "linkSends", fn := fun _ => fun
  | [d1, d2] => { results := [.lit (.bool true)], args := [d1, d2] }
  | _ => none }
def linkSendsRow : OpenClaim := { program := "ytiooimnlkcpnnaadoor", sum := "feb667dfc54c9150c5550a0d8bd40a00d8684dd93b3f1ec7409dd7228b438563", func := "wherry/wherrylaw.LinkSends", spec := "linkSends", unfollowed := true, recurses := true, named := ["unicode/utf8.first", "unicode/utf8.acceptRanges"], apart := false, laid := [("unicode/utf8.acceptRanges", laid_unicode_utf8_acceptRanges), ("unicode/utf8.first", laid_unicode_utf8_first)] }
def LinkSendsSaid : Prop := linkSendsRow.holds Tryd.pinned (OpenSpec.ofChange linkSendsSpec)

/-- ITS FALSE NEIGHBOUR: 'it returns false'. Refute it at one input. -/
def linkSendsWrong : ChangeSpec := { name := "linkSends", fn := fun _ => fun
  | [d1, d2] => { results := [.lit (.bool false)], args := [d1, d2] }
  | _ => none }
def LinkSendsWrongFalsely : Prop := linkSendsRow.holds Tryd.pinned (OpenSpec.ofChange linkSendsWrong)

/-- 'wherrylaw.TextInverts': WHATEVER THE INPUT: true; the input reads as it did. -/
def textInvertsSpec : ChangeSpec := { name := "textInverts", fn := fun _ => fun
  | [d1, d2] => { results := [.lit (.bool true)], args := [d1, d2] }
  | _ => none }
def textInvertsRow : OpenClaim := { program := "ytiooimnlkcpnnaadoor", sum := "feb667dfc54c9150c5550a0d8bd40a00d8684dd93b3f1ec7409dd7228b438563", func := "wherry/wherrylaw.TextInverts", spec := "textInverts", inPlace := ["internal/abi.NoEscape"], recurses := true, named := ["unicode/utf8.first", "unicode/utf8.acceptRanges"], apart := false, laid := [("unicode/utf8.acceptRanges", laid_unicode_utf8_acceptRanges), ("unicode/utf8.first", laid_unicode_utf8_first)] }
def TextInvertsSaid : Prop := textInvertsRow.holds Tryd.pinned (OpenSpec.ofChange textInvertsSpec)

/-- ITS FALSE NEIGHBOUR: 'it returns false'. Refute it at one input. -/
def textInvertsWrong : ChangeSpec := { name := "textInverts", fn := fun _ => fun
  | [d1, d2] => { results := [.lit (.bool false)], args := [d1, d2] }
  | _ => none }
def TextInvertsWrongFalsely : Prop := textInvertsRow.holds Tryd.pinned (OpenSpec.ofChange textInvertsWrong)

/-- 'wherrylaw.TextComposes': WHATEVER THE INPUT: true; the input reads as it did. -/
def textComposesSpec : ChangeSpec := { name := "textComposes", fn := fun _ => fun
  | [d1, d2] => { results := [.lit (.bool true)], args := [d1, d2] }
  | _ => none }
def textComposesRow : OpenClaim := { program := "ytiooimnlkcpnnaadoor", sum := "feb667dfc54c9150c5550a0d8bd40a00d8684dd93b3f1ec7409dd7228b438563", func := "wherry/wherrylaw.TextComposes", spec := "textComposes", recurses := true, named := ["unicode/utf8.first", "unicode/utf8.acceptRanges"], apart := false, laid := [("unicode/utf8.acceptRanges", laid_unicode_utf8_acceptRanges), ("unicode/utf8.first", laid_unicode_utf8_first)] }
def TextComposesSaid : Prop := textComposesRow.holds Tryd.pinned (OpenSpec.ofChange textComposesSpec)

/-- ITS FALSE NEIGHBOUR: 'it returns false'. Refute it at one input. -/
def textComposesWrong : ChangeSpec := { name := "textComposes", fn := fun _ => fun
  | [d1, d2] => { results := [.lit (.bool false)], args := [d1, d2] }
  | _ => none }
def TextComposesWrongFalsely : Prop := textComposesRow.holds Tryd.pinned (OpenSpec.ofChange textComposesWrong)

/-- 'wherrylaw.TapeRecovers': WHATEVER THE INPUT: true; the input reads as it did. -/
def tapeRecoversSpec : ChangeSpec := { name := "tapeRecovers", fn := fun _ => fun
  | [d] => { results := [.lit (.bool true)], args := [d] }
  | _ => none }
def tapeRecoversRow : OpenClaim := { program := "ytiooimnlkcpnnaadoor", sum := "feb667dfc54c9150c5550a0d8bd40a00d8684dd93b3f1ec7409dd7228b438563", func := "wherry/wherrylaw.TapeRecovers", spec := "tapeRecovers", named := ["unicode/utf8.first", "unicode/utf8.acceptRanges"], apart := false, laid := [("unicode/utf8.acceptRanges", laid_unicode_utf8_acceptRanges), ("unicode/utf8.first", laid_unicode_utf8_first)] }
def TapeRecoversSaid : Prop := tapeRecoversRow.holds Tryd.pinned (OpenSpec.ofChange tapeRecoversSpec)

/-- ITS FALSE NEIGHBOUR: 'it returns false'. Refute it at one input. -/
def tapeRecoversWrong : ChangeSpec := { name := "tapeRecovers", fn := fun _ => fun
  | [d] => { results := [.lit (.bool false)], args := [d] }
  | _ => none }
def TapeRecoversWrongFalsely : Prop := tapeRecoversRow.holds Tryd.pinned (OpenSpec.ofChange tapeRecoversWrong)

/-- 'wherrylaw.TextTransforms': WHATEVER THE INPUT: true; the input reads as it did. -/
def textTransformsSpec : ChangeSpec := { name := "textTransforms", fn := fun _ => fun
  | [d1, d2] => { results := [.lit (.bool true)], args := [d1, d2] }
  | _ => none }
def textTransformsRow : OpenClaim := { program := "ytiooimnlkcpnnaadoor", sum := "feb667dfc54c9150c5550a0d8bd40a00d8684dd93b3f1ec7409dd7228b438563", func := "wherry/wherrylaw.TextTransforms", spec := "textTransforms", recurses := true, named := ["unicode/utf8.first", "unicode/utf8.acceptRanges"], apart := false, laid := [("unicode/utf8.acceptRanges", laid_unicode_utf8_acceptRanges), ("unicode/utf8.first", laid_unicode_utf8_first)] }
def TextTransformsSaid : Prop := textTransformsRow.holds Tryd.pinned (OpenSpec.ofChange textTransformsSpec)

/-- ITS FALSE NEIGHBOUR: 'it returns false'. Refute it at one input. -/
def textTransformsWrong : ChangeSpec := { name := "textTransforms", fn := fun _ => fun
  | [d1, d2] => { results := [.lit (.bool false)], args := [d1, d2] }
  | _ => none }
def TextTransformsWrongFalsely : Prop := textTransformsRow.holds Tryd.pinned (OpenSpec.ofChange textTransformsWrong)

/-- 'wherrylaw.LinkHears': WHATEVER THE INPUT: true; the input reads as it did. -/
def linkHearsSpec : ChangeSpec := { name := "linkHears", fn := fun _ => fun
  | [d1, d2] => { results := [.lit (.bool true)], args := [d1, d2] }
  | _ => none }
def linkHearsRow : OpenClaim := { program := "ytiooimnlkcpnnaadoor", sum := "feb667dfc54c9150c5550a0d8bd40a00d8684dd93b3f1ec7409dd7228b438563", func := "wherry/wherrylaw.LinkHears", spec := "linkHears", unfollowed := true, recurses := true, named := ["unicode/utf8.first", "unicode/utf8.acceptRanges"], apart := false, laid := [("unicode/utf8.acceptRanges", laid_unicode_utf8_acceptRanges), ("unicode/utf8.first", laid_unicode_utf8_first)] }
def LinkHearsSaid : Prop := linkHearsRow.holds Tryd.pinned (OpenSpec.ofChange linkHearsSpec)

/-- ITS FALSE NEIGHBOUR: 'it returns false'. Refute it at one input. -/
def linkHearsWrong : ChangeSpec := { name := "linkHears", fn := fun _ => fun
  | [d1, d2] => { results := [.lit (.bool false)], args := [d1, d2] }
  | _ => none }
def LinkHearsWrongFalsely : Prop := linkHearsRow.holds Tryd.pinned (OpenSpec.ofChange linkHearsWrong)

/-- 'wherrylaw.WireHears': WHATEVER THE INPUT: true; the input reads as it did. -/
def wireHearsSpec : ChangeSpec := { name := "wireHears", fn := fun _ => fun
  | [d] => { results := [.lit (.bool true)], args := [d] }
  | _ => none }
def wireHearsRow : OpenClaim := { program := "ytiooimnlkcpnnaadoor", sum := "feb667dfc54c9150c5550a0d8bd40a00d8684dd93b3f1ec7409dd7228b438563", func := "wherry/wherrylaw.WireHears", spec := "wireHears", named := ["unicode/utf8.first", "unicode/utf8.acceptRanges"], apart := false, laid := [("unicode/utf8.acceptRanges", laid_unicode_utf8_acceptRanges), ("unicode/utf8.first", laid_unicode_utf8_first)] }
def WireHearsSaid : Prop := wireHearsRow.holds Tryd.pinned (OpenSpec.ofChange wireHearsSpec)

/-- ITS FALSE NEIGHBOUR: 'it returns false'. Refute it at one input. -/
def wireHearsWrong : ChangeSpec := { name := "wireHears", fn := fun _ => fun
  | [d] => { results := [.lit (.bool false)], args := [d] }
  | _ => none }
def WireHearsWrongFalsely : Prop := wireHearsRow.holds Tryd.pinned (OpenSpec.ofChange wireHearsWrong)

/-- 'wherrylaw.NodeChecks': WHATEVER THE INPUT: true; the input reads as it did. -/
def nodeChecksSpec : ChangeSpec := { name := "nodeChecks", fn := fun _ => fun
  | [d1, d2] => { results := [.lit (.bool true)], args := [d1, d2] }
  | _ => none }
def nodeChecksRow : OpenClaim := { program := "ytiooimnlkcpnnaadoor", sum := "feb667dfc54c9150c5550a0d8bd40a00d8684dd93b3f1ec7409dd7228b438563", func := "wherry/wherrylaw.NodeChecks", spec := "nodeChecks", unfollowed := true, recurses := true, named := ["unicode/utf8.first", "unicode/utf8.acceptRanges"], apart := false, laid := [("unicode/utf8.acceptRanges", laid_unicode_utf8_acceptRanges), ("unicode/utf8.first", laid_unicode_utf8_first)] }
def NodeChecksSaid : Prop := nodeChecksRow.holds Tryd.pinned (OpenSpec.ofChange nodeChecksSpec)

/-- ITS FALSE NEIGHBOUR: 'it returns false'. Refute it at one input. -/
def nodeChecksWrong : ChangeSpec := { name := "nodeChecks", fn := fun _ => fun
  | [d1, d2] => { results := [.lit (.bool false)], args := [d1, d2] }
  | _ => none }
def NodeChecksWrongFalsely : Prop := nodeChecksRow.holds Tryd.pinned (OpenSpec.ofChange nodeChecksWrong)

/- THE SECOND FORM. 'bulk': how many values and letters a reading holds, each counted each time it is reached (what is shared counts as often as it is met; a slice's spare places count too). A statement '..UptoSaid' is the law's where the arguments, and the package variables that the reading takes, are together of bulk at most 1048576: NARROWER than '..Said'. Prove '..Said' where nothing that the law and all that it calls make is longer than what came in: it says more and counts as full. Else prove '..UptoSaid'. A law counts once. -/
mutual
def uptoBulk {H : Type} : DataW H → Nat
  | .lit (.string bytes) => bytes.length + 1
  | .lit _ => 1
  | .nil => 1
  | .ptr d => uptoBulk d + 1
  | .slice elems spare => uptoBulkAll elems + uptoBulkAll spare + 1
  | .agg parts => uptoBulkAll parts + 1
  | .iface _ d => uptoBulk d + 1
  | .map entries => uptoBulkEntries entries + 1
  | .held _ => 1
def uptoBulkAll {H : Type} : List (DataW H) → Nat
  | [] => 0
  | d :: r => uptoBulk d + uptoBulkAll r
def uptoBulkEntries {H : Type} : List (Lit × DataW H) → Nat
  | [] => 0
  | x :: r => uptoBulkEntry x + uptoBulkEntries r
def uptoBulkEntry {H : Type} : Lit × DataW H → Nat
  | (.string bytes, d) => bytes.length + uptoBulk d + 1
  | (_, d) => uptoBulk d + 1
 end
def uptoSmall : (H : Type) → List (DataW H) → Bool := fun _ ds => decide (uptoBulkAll ds ≤ 1048576)
def OpenSpec.upto (s : _root_.Go.ChangeSpec) : _root_.Go.OpenSpec := { _root_.Go.OpenSpec.ofChange s with cond := some uptoSmall }

/-- 'wherrylaw.TextMoves', WHERE WHAT IT READS IS OF BULK AT MOST 1048576: true; the input reads as it did. -/
def textMovesUptoRow : OpenClaim := { program := "ytiooimnlkcpnnaadoor", sum := "feb667dfc54c9150c5550a0d8bd40a00d8684dd93b3f1ec7409dd7228b438563", func := "wherry/wherrylaw.TextMoves", spec := "textMoves", named := ["unicode/utf8.first", "unicode/utf8.acceptRanges"], apart := false, laid := [("unicode/utf8.acceptRanges", laid_unicode_utf8_acceptRanges), ("unicode/utf8.first", laid_unicode_utf8_first)], narrowed := true }
def TextMovesUptoSaid : Prop := textMovesUptoRow.holds Tryd.pinned (OpenSpec.upto textMovesSpec)

/-- 'wherrylaw.LinesChecks', WHERE WHAT IT READS IS OF BULK AT MOST 1048576: true; the input reads as it did. -/
def linesChecksUptoRow : OpenClaim := { program := "ytiooimnlkcpnnaadoor", sum := "feb667dfc54c9150c5550a0d8bd40a00d8684dd93b3f1ec7409dd7228b438563", func := "wherry/wherrylaw.LinesChecks", spec := "linesChecks", named := ["unicode/utf8.first", "unicode/utf8.acceptRanges"], apart := false, laid := [("unicode/utf8.acceptRanges", laid_unicode_utf8_acceptRanges), ("unicode/utf8.first", laid_unicode_utf8_first)], narrowed := true }
def LinesChecksUptoSaid : Prop := linesChecksUptoRow.holds Tryd.pinned (OpenSpec.upto linesChecksSpec)

/-- 'wherrylaw.LinkChecks', WHERE WHAT IT READS IS OF BULK AT MOST 1048576: true; the input reads as it did. -/
def linkChecksUptoRow : OpenClaim := { program := "ytiooimnlkcpnnaadoor", sum := "feb667dfc54c9150c5550a0d8bd40a00d8684dd93b3f1ec7409dd7228b438563", func := "wherry/wherrylaw.LinkChecks", spec := "linkChecks", unfollowed := true, recurses := true, named := ["unicode/utf8.first", "unicode/utf8.acceptRanges"], apart := false, laid := [("unicode/utf8.acceptRanges", laid_unicode_utf8_acceptRanges), ("unicode/utf8.first", laid_unicode_utf8_first)], narrowed := true }
def LinkChecksUptoSaid : Prop := linkChecksUptoRow.holds Tryd.pinned (OpenSpec.upto linkChecksSpec)

/-- 'wherrylaw.EdgeSends', WHERE WHAT IT READS IS OF BULK AT MOST 1048576: true; the input reads as it did. -/
def edgeSendsUptoRow : OpenClaim := { program := "ytiooimnlkcpnnaadoor", sum := "feb667dfc54c9150c5550a0d8bd40a00d8684dd93b3f1ec7409dd7228b438563", func := "wherry/wherrylaw.EdgeSends", spec := "edgeSends", named := ["unicode/utf8.first", "unicode/utf8.acceptRanges"], apart := false, laid := [("unicode/utf8.acceptRanges", laid_unicode_utf8_acceptRanges), ("unicode/utf8.first", laid_unicode_utf8_first)], narrowed := true }
def EdgeSendsUptoSaid : Prop := edgeSendsUptoRow.holds Tryd.pinned (OpenSpec.upto edgeSendsSpec)

/-- 'wherrylaw.LinkTicks', WHERE WHAT IT READS IS OF BULK AT MOST 1048576: true; the input reads as it did. -/
def linkTicksUptoRow : OpenClaim := { program := "ytiooimnlkcpnnaadoor", sum := "feb667dfc54c9150c5550a0d8bd40a00d8684dd93b3f1ec7409dd7228b438563", func := "wherry/wherrylaw.LinkTicks", spec := "linkTicks", unfollowed := true, recurses := true, named := ["unicode/utf8.first", "unicode/utf8.acceptRanges"], apart := false, laid := [("unicode/utf8.acceptRanges", laid_unicode_utf8_acceptRanges), ("unicode/utf8.first", laid_unicode_utf8_first)], narrowed := true }
def LinkTicksUptoSaid : Prop := linkTicksUptoRow.holds Tryd.pinned (OpenSpec.upto linkTicksSpec)

/-- 'wherrylaw.WireSends', WHERE WHAT IT READS IS OF BULK AT MOST 1048576: true; the input reads as it did. -/
def wireSendsUptoRow : OpenClaim := { program := "ytiooimnlkcpnnaadoor", sum := "feb667dfc54c9150c5550a0d8bd40a00d8684dd93b3f1ec7409dd7228b438563", func := "wherry/wherrylaw.WireSends", spec := "wireSends", recurses := true, named := ["unicode/utf8.first", "unicode/utf8.acceptRanges"], apart := false, laid := [("unicode/utf8.acceptRanges", laid_unicode_utf8_acceptRanges), ("unicode/utf8.first", laid_unicode_utf8_first)], narrowed := true }
def WireSendsUptoSaid : Prop := wireSendsUptoRow.holds Tryd.pinned (OpenSpec.upto wireSendsSpec)

/-- 'wherrylaw.WireReads', WHERE WHAT IT READS IS OF BULK AT MOST 1048576: true; the input reads as it did. -/
def wireReadsUptoRow : OpenClaim := { program := "ytiooimnlkcpnnaadoor", sum := "feb667dfc54c9150c5550a0d8bd40a00d8684dd93b3f1ec7409dd7228b438563", func := "wherry/wherrylaw.WireReads", spec := "wireReads", named := ["unicode/utf8.first", "unicode/utf8.acceptRanges"], apart := false, laid := [("unicode/utf8.acceptRanges", laid_unicode_utf8_acceptRanges), ("unicode/utf8.first", laid_unicode_utf8_first)], narrowed := true }
def WireReadsUptoSaid : Prop := wireReadsUptoRow.holds Tryd.pinned (OpenSpec.upto wireReadsSpec)

/-- 'wherrylaw.TapeAppends', WHERE WHAT IT READS IS OF BULK AT MOST 1048576: true; the input reads as it did. -/
def tapeAppendsUptoRow : OpenClaim := { program := "ytiooimnlkcpnnaadoor", sum := "feb667dfc54c9150c5550a0d8bd40a00d8684dd93b3f1ec7409dd7228b438563", func := "wherry/wherrylaw.TapeAppends", spec := "tapeAppends", recurses := true, named := ["unicode/utf8.first", "unicode/utf8.acceptRanges"], apart := false, laid := [("unicode/utf8.acceptRanges", laid_unicode_utf8_acceptRanges), ("unicode/utf8.first", laid_unicode_utf8_first)], narrowed := true }
def TapeAppendsUptoSaid : Prop := tapeAppendsUptoRow.holds Tryd.pinned (OpenSpec.upto tapeAppendsSpec)

/-- 'wherrylaw.LinkSends', WHERE WHAT IT READS IS OF BULK AT MOST 1048576: true; the input reads as it did. -/
def linkSendsUptoRow : OpenClaim := { program := "ytiooimnlkcpnnaadoor", sum := "feb667dfc54c9150c5550a0d8bd40a00d8684dd93b3f1ec7409dd7228b438563", func := "wherry/wherrylaw.LinkSends", spec := "linkSends", unfollowed := true, recurses := true, named := ["unicode/utf8.first", "unicode/utf8.acceptRanges"], apart := false, laid := [("unicode/utf8.acceptRanges", laid_unicode_utf8_acceptRanges), ("unicode/utf8.first", laid_unicode_utf8_first)], narrowed := true }
def LinkSendsUptoSaid : Prop := linkSendsUptoRow.holds Tryd.pinned (OpenSpec.upto linkSendsSpec)

/-- 'wherrylaw.TextInverts', WHERE WHAT IT READS IS OF BULK AT MOST 1048576: true; the input reads as it did. -/
def textInvertsUptoRow : OpenClaim := { program := "ytiooimnlkcpnnaadoor", sum := "feb667dfc54c9150c5550a0d8bd40a00d8684dd93b3f1ec7409dd7228b438563", func := "wherry/wherrylaw.TextInverts", spec := "textInverts", inPlace := ["internal/abi.NoEscape"], recurses := true, named := ["unicode/utf8.first", "unicode/utf8.acceptRanges"], apart := false, laid := [("unicode/utf8.acceptRanges", laid_unicode_utf8_acceptRanges), ("unicode/utf8.first", laid_unicode_utf8_first)], narrowed := true }
def TextInvertsUptoSaid : Prop := textInvertsUptoRow.holds Tryd.pinned (OpenSpec.upto textInvertsSpec)

/-- 'wherrylaw.TextComposes', WHERE WHAT IT READS IS OF BULK AT MOST 1048576: true; the input reads as it did. -/
def textComposesUptoRow : OpenClaim := { program := "ytiooimnlkcpnnaadoor", sum := "feb667dfc54c9150c5550a0d8bd40a00d8684dd93b3f1ec7409dd7228b438563", func := "wherry/wherrylaw.TextComposes", spec := "textComposes", recurses := true, named := ["unicode/utf8.first", "unicode/utf8.acceptRanges"], apart := false, laid := [("unicode/utf8.acceptRanges", laid_unicode_utf8_acceptRanges), ("unicode/utf8.first", laid_unicode_utf8_first)], narrowed := true }
def TextComposesUptoSaid : Prop := textComposesUptoRow.holds Tryd.pinned (OpenSpec.upto textComposesSpec)

/-- 'wherrylaw.TapeRecovers', WHERE WHAT IT READS IS OF BULK AT MOST 1048576: true; the input reads as it did. -/
def tapeRecoversUptoRow : OpenClaim := { program := "ytiooimnlkcpnnaadoor", sum := "feb667dfc54c9150c5550a0d8bd40a00d8684dd93b3f1ec7409dd7228b438563", func := "wherry/wherrylaw.TapeRecovers", spec := "tapeRecovers", named := ["unicode/utf8.first", "unicode/utf8.acceptRanges"], apart := false, laid := [("unicode/utf8.acceptRanges", laid_unicode_utf8_acceptRanges), ("unicode/utf8.first", laid_unicode_utf8_first)], narrowed := true }
def TapeRecoversUptoSaid : Prop := tapeRecoversUptoRow.holds Tryd.pinned (OpenSpec.upto tapeRecoversSpec)

/-- 'wherrylaw.TextTransforms', WHERE WHAT IT READS IS OF BULK AT MOST 1048576: true; the input reads as it did. -/
def textTransformsUptoRow : OpenClaim := { program := "ytiooimnlkcpnnaadoor", sum := "feb667dfc54c9150c5550a0d8bd40a00d8684dd93b3f1ec7409dd7228b438563", func := "wherry/wherrylaw.TextTransforms", spec := "textTransforms", recurses := true, named := ["unicode/utf8.first", "unicode/utf8.acceptRanges"], apart := false, laid := [("unicode/utf8.acceptRanges", laid_unicode_utf8_acceptRanges), ("unicode/utf8.first", laid_unicode_utf8_first)], narrowed := true }
def TextTransformsUptoSaid : Prop := textTransformsUptoRow.holds Tryd.pinned (OpenSpec.upto textTransformsSpec)

/-- 'wherrylaw.LinkHears', WHERE WHAT IT READS IS OF BULK AT MOST 1048576: true; the input reads as it did. -/
def linkHearsUptoRow : OpenClaim := { program := "ytiooimnlkcpnnaadoor", sum := "feb667dfc54c9150c5550a0d8bd40a00d8684dd93b3f1ec7409dd7228b438563", func := "wherry/wherrylaw.LinkHears", spec := "linkHears", unfollowed := true, recurses := true, named := ["unicode/utf8.first", "unicode/utf8.acceptRanges"], apart := false, laid := [("unicode/utf8.acceptRanges", laid_unicode_utf8_acceptRanges), ("unicode/utf8.first", laid_unicode_utf8_first)], narrowed := true }
def LinkHearsUptoSaid : Prop := linkHearsUptoRow.holds Tryd.pinned (OpenSpec.upto linkHearsSpec)

/-- 'wherrylaw.WireHears', WHERE WHAT IT READS IS OF BULK AT MOST 1048576: true; the input reads as it did. -/
def wireHearsUptoRow : OpenClaim := { program := "ytiooimnlkcpnnaadoor", sum := "feb667dfc54c9150c5550a0d8bd40a00d8684dd93b3f1ec7409dd7228b438563", func := "wherry/wherrylaw.WireHears", spec := "wireHears", named := ["unicode/utf8.first", "unicode/utf8.acceptRanges"], apart := false, laid := [("unicode/utf8.acceptRanges", laid_unicode_utf8_acceptRanges), ("unicode/utf8.first", laid_unicode_utf8_first)], narrowed := true }
def WireHearsUptoSaid : Prop := wireHearsUptoRow.holds Tryd.pinned (OpenSpec.upto wireHearsSpec)

/-- 'wherrylaw.NodeChecks', WHERE WHAT IT READS IS OF BULK AT MOST 1048576: true; the input reads as it did. -/
def nodeChecksUptoRow : OpenClaim := { program := "ytiooimnlkcpnnaadoor", sum := "feb667dfc54c9150c5550a0d8bd40a00d8684dd93b3f1ec7409dd7228b438563", func := "wherry/wherrylaw.NodeChecks", spec := "nodeChecks", unfollowed := true, recurses := true, named := ["unicode/utf8.first", "unicode/utf8.acceptRanges"], apart := false, laid := [("unicode/utf8.acceptRanges", laid_unicode_utf8_acceptRanges), ("unicode/utf8.first", laid_unicode_utf8_first)], narrowed := true }
def NodeChecksUptoSaid : Prop := nodeChecksUptoRow.holds Tryd.pinned (OpenSpec.upto nodeChecksSpec)

end Rows
end Go.Proofs.YtiooimnlkcpnnaaDoor
