/-
  NARROWER THAN 'FOR EVERY INPUT', by the rows' own cells (each row's printed sentence says how): TextMoves: laid · LinesChecks: laid · WirePackets: laid · WireWrites: laid · TextApplies: laid · LinkChecks: laid · EdgeSends: laid · TapeReplays: laid · LinkTicks: laid · WireSends: laid · WireReads: laid · TapeAppends: laid.
  DERIVED. THE GIVEN ROWS OF THIS SEAT. 12 by the template 'for every input the law returns true; each argument reads behind the call as it read before'; 0 by the template 'total and deterministic' (their statements: YtkelmppfijgecaaDoorTotals.lean).
  GIVEN WITH THE SEED: the statements are not yours to turn. If you find one false, say at which input.
  Laid BY PROGRAM, IN A SANDBOX (cutbox-rows.mjs): the forced cells as the released guide's own fill.sh prints them over the translation 785309ab9280a182… (all of the seat's roots in one cut). By AI agents, Wed Nov 11 2026. No macro, syntax, notation, axiom, sorry.
-/
import Derived.Test.YtkelmppfijgecaaDoorChecked
import GoSem.PinnedTables
import GoSem.Claim
import GoSem.ClaimJoined
import GoSem.ClaimMapViews
import Derived.JoinedTies
import Derived.KernelRfl
namespace Go.Proofs.YtkelmppfijgecaaDoor
/- THE CELL 'sum', in the pinned program and in every row, IS THE sha256 OF THE DUMP (.gsa) THAT YtkelmppfijgecaaDoorProg.lean LOADS. Nothing in Lean hashes anything: it is a label: what it is worth is what the hold of that sum in a sandbox is worth. -/
noncomputable def Tryd.pinned : Pinned := { name := "ytkelmppfijgecaadoor", sum := "785309ab9280a1827f12c812f6151540c4bdfaef4da1de075360ef14be91f0b4", checked := Tryd.checked }
namespace Rows
def none {H : Type} : Left H := { results := [], args := [] }

/- WHAT THE LISTED PACKAGE-LEVEL VARIABLES READ AS WHEN THE CALL BEGINS. Each datum BY PROGRAM (the guide's laid-datum.mjs) off the statement by which the dump's own 'gosem.cut.vars' lays the variable. In a bare row this is a premise. The card (YtkelmppfijgecaaDoorCards.lean) ties it to the program's text. -/
def laid_unicode_utf8_acceptRanges {H : Type} : DataW H := .agg [.agg [.lit (.int .u8 128), .lit (.int .u8 191)], .agg [.lit (.int .u8 160), .lit (.int .u8 191)], .agg [.lit (.int .u8 128), .lit (.int .u8 159)], .agg [.lit (.int .u8 144), .lit (.int .u8 191)], .agg [.lit (.int .u8 128), .lit (.int .u8 143)], .agg [.lit (.int .u8 0), .lit (.int .u8 0)], .agg [.lit (.int .u8 0), .lit (.int .u8 0)], .agg [.lit (.int .u8 0), .lit (.int .u8 0)], .agg [.lit (.int .u8 0), .lit (.int .u8 0)], .agg [.lit (.int .u8 0), .lit (.int .u8 0)], .agg [.lit (.int .u8 0), .lit (.int .u8 0)], .agg [.lit (.int .u8 0), .lit (.int .u8 0)], .agg [.lit (.int .u8 0), .lit (.int .u8 0)], .agg [.lit (.int .u8 0), .lit (.int .u8 0)], .agg [.lit (.int .u8 0), .lit (.int .u8 0)], .agg [.lit (.int .u8 0), .lit (.int .u8 0)]]
/-- One of Go's own tables, pinned by name: the form's constant. -/
def laid_unicode_utf8_first : DataW Unit := Go.Pinned.utf8First

/-- 'wherrylaw.TextMoves': WHATEVER THE INPUT: true; the input reads as it did. -/
def textMovesSpec : ChangeSpec := { name := "textMoves", fn := fun _ => fun
  | [d1, d2, d3] => { results := [.lit (.bool true)], args := [d1, d2, d3] }
  | _ => none }
def textMovesRow : OpenClaim := { program := "ytkelmppfijgecaadoor", sum := "785309ab9280a1827f12c812f6151540c4bdfaef4da1de075360ef14be91f0b4", func := "wherry/wherrylaw.TextMoves", spec := "textMoves", named := ["unicode/utf8.first", "unicode/utf8.acceptRanges"], apart := false, laid := [("unicode/utf8.acceptRanges", laid_unicode_utf8_acceptRanges), ("unicode/utf8.first", laid_unicode_utf8_first)] }
def TextMovesSaid : Prop := textMovesRow.holds Tryd.pinned (OpenSpec.ofChange textMovesSpec)

/-- ITS FALSE NEIGHBOUR: 'it returns false'. Refute it at one input. -/
def textMovesWrong : ChangeSpec := { name := "textMoves", fn := fun _ => fun
  | [d1, d2, d3] => { results := [.lit (.bool false)], args := [d1, d2, d3] }
  | _ => none }
def TextMovesWrongFalsely : Prop := textMovesRow.holds Tryd.pinned (OpenSpec.ofChange textMovesWrong)

/-- 'wherrylaw.LinesChecks': WHATEVER THE INPUT: true; the input reads as it did. -/
def linesChecksSpec : ChangeSpec := { name := "linesChecks", fn := fun _ => fun
  | [d1, d2] => { results := [.lit (.bool true)], args := [d1, d2] }
  | _ => none }
def linesChecksRow : OpenClaim := { program := "ytkelmppfijgecaadoor", sum := "785309ab9280a1827f12c812f6151540c4bdfaef4da1de075360ef14be91f0b4", func := "wherry/wherrylaw.LinesChecks", spec := "linesChecks", named := ["unicode/utf8.first", "unicode/utf8.acceptRanges"], apart := false, laid := [("unicode/utf8.acceptRanges", laid_unicode_utf8_acceptRanges), ("unicode/utf8.first", laid_unicode_utf8_first)] }
def LinesChecksSaid : Prop := linesChecksRow.holds Tryd.pinned (OpenSpec.ofChange linesChecksSpec)

/-- ITS FALSE NEIGHBOUR: 'it returns false'. Refute it at one input. -/
def linesChecksWrong : ChangeSpec := { name := "linesChecks", fn := fun _ => fun
  | [d1, d2] => { results := [.lit (.bool false)], args := [d1, d2] }
  | _ => none }
def LinesChecksWrongFalsely : Prop := linesChecksRow.holds Tryd.pinned (OpenSpec.ofChange linesChecksWrong)

/-- 'wherrylaw.WirePackets': WHATEVER THE INPUT: true; the input reads as it did. -/
def wirePacketsSpec : ChangeSpec := { name := "wirePackets", fn := fun _ => fun
  | [d] => { results := [.lit (.bool true)], args := [d] }
  | _ => none }
def wirePacketsRow : OpenClaim := { program := "ytkelmppfijgecaadoor", sum := "785309ab9280a1827f12c812f6151540c4bdfaef4da1de075360ef14be91f0b4", func := "wherry/wherrylaw.WirePackets", spec := "wirePackets", named := ["unicode/utf8.first", "unicode/utf8.acceptRanges"], apart := false, laid := [("unicode/utf8.acceptRanges", laid_unicode_utf8_acceptRanges), ("unicode/utf8.first", laid_unicode_utf8_first)] }
def WirePacketsSaid : Prop := wirePacketsRow.holds Tryd.pinned (OpenSpec.ofChange wirePacketsSpec)

/-- ITS FALSE NEIGHBOUR: 'it returns false'. Refute it at one input. -/
def wirePacketsWrong : ChangeSpec := { name := "wirePackets", fn := fun _ => fun
  | [d] => { results := [.lit (.bool false)], args := [d] }
  | _ => none }
def WirePacketsWrongFalsely : Prop := wirePacketsRow.holds Tryd.pinned (OpenSpec.ofChange wirePacketsWrong)

/-- 'wherrylaw.WireWrites': WHATEVER THE INPUT: true; the input reads as it did. -/
def wireWritesSpec : ChangeSpec := { name := "wireWrites", fn := fun _ => fun
  | [d] => { results := [.lit (.bool true)], args := [d] }
  | _ => none }
def wireWritesRow : OpenClaim := { program := "ytkelmppfijgecaadoor", sum := "785309ab9280a1827f12c812f6151540c4bdfaef4da1de075360ef14be91f0b4", func := "wherry/wherrylaw.WireWrites", spec := "wireWrites", recurses := true, named := ["unicode/utf8.first", "unicode/utf8.acceptRanges"], apart := false, laid := [("unicode/utf8.acceptRanges", laid_unicode_utf8_acceptRanges), ("unicode/utf8.first", laid_unicode_utf8_first)] }
def WireWritesSaid : Prop := wireWritesRow.holds Tryd.pinned (OpenSpec.ofChange wireWritesSpec)

/-- ITS FALSE NEIGHBOUR: 'it returns false'. Refute it at one input. -/
def wireWritesWrong : ChangeSpec := { name := "wireWrites", fn := fun _ => fun
  | [d] => { results := [.lit (.bool false)], args := [d] }
  | _ => none }
def WireWritesWrongFalsely : Prop := wireWritesRow.holds Tryd.pinned (OpenSpec.ofChange wireWritesWrong)

/-- 'wherrylaw.TextApplies': WHATEVER THE INPUT: true; the input reads as it did. -/
def textAppliesSpec : ChangeSpec := { name := "textApplies", fn := fun _ => fun
  | [d1, d2] => { results := [.lit (.bool true)], args := [d1, d2] }
  | _ => none }
def textAppliesRow : OpenClaim := { program := "ytkelmppfijgecaadoor", sum := "785309ab9280a1827f12c812f6151540c4bdfaef4da1de075360ef14be91f0b4", func := "wherry/wherrylaw.TextApplies", spec := "textApplies", inPlace := ["internal/abi.NoEscape"], named := ["unicode/utf8.first", "unicode/utf8.acceptRanges"], apart := false, laid := [("unicode/utf8.acceptRanges", laid_unicode_utf8_acceptRanges), ("unicode/utf8.first", laid_unicode_utf8_first)] }
def TextAppliesSaid : Prop := textAppliesRow.holds Tryd.pinned (OpenSpec.ofChange textAppliesSpec)

/-- ITS FALSE NEIGHBOUR: 'it returns false'. Refute it at one input. -/
def textAppliesWrong : ChangeSpec := { name := "textApplies", fn := fun _ => fun
  | [d1, d2] => { results := [.lit (.bool false)], args := [d1, d2] }
  | _ => none }
def TextAppliesWrongFalsely : Prop := textAppliesRow.holds Tryd.pinned (OpenSpec.ofChange textAppliesWrong)

/-- 'wherrylaw.LinkChecks': WHATEVER THE INPUT: true; the input reads as it did. -/
def linkChecksSpec : ChangeSpec := { name := "linkChecks", fn := fun _ => fun
  | [d] => { results := [.lit (.bool true)], args := [d] }
  | _ => none }
def linkChecksRow : OpenClaim := { program := "ytkelmppfijgecaadoor", sum := "785309ab9280a1827f12c812f6151540c4bdfaef4da1de075360ef14be91f0b4", func := "wherry/wherrylaw.LinkChecks", spec := "linkChecks", unfollowed := true, recurses := true, named := ["unicode/utf8.first", "unicode/utf8.acceptRanges"], apart := false, laid := [("unicode/utf8.acceptRanges", laid_unicode_utf8_acceptRanges), ("unicode/utf8.first", laid_unicode_utf8_first)] }
def LinkChecksSaid : Prop := linkChecksRow.holds Tryd.pinned (OpenSpec.ofChange linkChecksSpec)

/-- ITS FALSE NEIGHBOUR: 'it returns false'. Refute it at one input. -/
def linkChecksWrong : ChangeSpec := { name := "linkChecks", fn := fun _ => fun
  | [d] => { results := [.lit (.bool false)], args := [d] }
  | _ => none }
def LinkChecksWrongFalsely : Prop := linkChecksRow.holds Tryd.pinned (OpenSpec.ofChange linkChecksWrong)

/-- 'wherrylaw.EdgeSends': WHATEVER THE INPUT: true; the input reads as it did. -/
def edgeSendsSpec : ChangeSpec := { name := "edgeSends", fn := fun _ => fun
  | [d1, d2] => { results := [.lit (.bool true)], args := [d1, d2] }
  | _ => none }
def edgeSendsRow : OpenClaim := { program := "ytkelmppfijgecaadoor", sum := "785309ab9280a1827f12c812f6151540c4bdfaef4da1de075360ef14be91f0b4", func := "wherry/wherrylaw.EdgeSends", spec := "edgeSends", named := ["unicode/utf8.first", "unicode/utf8.acceptRanges"], apart := false, laid := [("unicode/utf8.acceptRanges", laid_unicode_utf8_acceptRanges), ("unicode/utf8.first", laid_unicode_utf8_first)] }
def EdgeSendsSaid : Prop := edgeSendsRow.holds Tryd.pinned (OpenSpec.ofChange edgeSendsSpec)

/-- ITS FALSE NEIGHBOUR: 'it returns false'. Refute it at one input. -/
def edgeSendsWrong : ChangeSpec := { name := "edgeSends", fn := fun _ => fun
  | [d1, d2] => { results := [.lit (.bool false)], args := [d1, d2] }
  | _ => none }
def EdgeSendsWrongFalsely : Prop := edgeSendsRow.holds Tryd.pinned (OpenSpec.ofChange edgeSendsWrong)

/-- 'wherrylaw.TapeReplays': WHATEVER THE INPUT: true; the input reads as it did. -/
def tapeReplaysSpec : ChangeSpec := { name := "tapeReplays", fn := fun _ => fun
  | [d] => { results := [.lit (.bool true)], args := [d] }
  | _ => none }
def tapeReplaysRow : OpenClaim := { program := "ytkelmppfijgecaadoor", sum := "785309ab9280a1827f12c812f6151540c4bdfaef4da1de075360ef14be91f0b4", func := "wherry/wherrylaw.TapeReplays", spec := "tapeReplays", inPlace := ["internal/abi.NoEscape"], named := ["unicode/utf8.first", "unicode/utf8.acceptRanges"], apart := false, laid := [("unicode/utf8.acceptRanges", laid_unicode_utf8_acceptRanges), ("unicode/utf8.first", laid_unicode_utf8_first)] }
def TapeReplaysSaid : Prop := tapeReplaysRow.holds Tryd.pinned (OpenSpec.ofChange tapeReplaysSpec)

/-- ITS FALSE NEIGHBOUR: 'it returns false'. Refute it at one input. -/
def tapeReplaysWrong : ChangeSpec := { name := "tapeReplays", fn := fun _ => fun
  | [d] => { results := [.lit (.bool false)], args := [d] }
  | _ => none }
def TapeReplaysWrongFalsely : Prop := tapeReplaysRow.holds Tryd.pinned (OpenSpec.ofChange tapeReplaysWrong)

/-- 'wherrylaw.LinkTicks': WHATEVER THE INPUT: true; the input reads as it did. -/
def linkTicksSpec : ChangeSpec := { name := "linkTicks", fn := fun _ => fun
  | [d] => { results := [.lit (.bool true)], args := [d] }
  | _ => none }
def linkTicksRow : OpenClaim := { program := "ytkelmppfijgecaadoor", sum := "785309ab9280a1827f12c812f6151540c4bdfaef4da1de075360ef14be91f0b4", func := "wherry/wherrylaw.LinkTicks", spec := "linkTicks", unfollowed := true, recurses := true, named := ["unicode/utf8.first", "unicode/utf8.acceptRanges"], apart := false, laid := [("unicode/utf8.acceptRanges", laid_unicode_utf8_acceptRanges), ("unicode/utf8.first", laid_unicode_utf8_first)] }
def LinkTicksSaid : Prop := linkTicksRow.holds Tryd.pinned (OpenSpec.ofChange linkTicksSpec)

/-- ITS FALSE NEIGHBOUR: 'it returns false'. Refute it at one input. -/
def linkTicksWrong : ChangeSpec := { name := "linkTicks", fn := fun _ => fun
  | [d] => { results := [.lit (.bool false)], args := [d] }
  | _ => none }
def LinkTicksWrongFalsely : Prop := linkTicksRow.holds Tryd.pinned (OpenSpec.ofChange linkTicksWrong)

/-- 'wherrylaw.WireSends': WHATEVER THE INPUT: true; the input reads as it did. -/
def wireSendsSpec : ChangeSpec := { name := "wireSends", fn := fun _ => fun
  | [d] => { results := [.lit (.bool true)], args := [d] }
  | _ => none }
def wireSendsRow : OpenClaim := { program := "ytkelmppfijgecaadoor", sum := "785309ab9280a1827f12c812f6151540c4bdfaef4da1de075360ef14be91f0b4", func := "wherry/wherrylaw.WireSends", spec := "wireSends", recurses := true, named := ["unicode/utf8.first", "unicode/utf8.acceptRanges"], apart := false, laid := [("unicode/utf8.acceptRanges", laid_unicode_utf8_acceptRanges), ("unicode/utf8.first", laid_unicode_utf8_first)] }
def WireSendsSaid : Prop := wireSendsRow.holds Tryd.pinned (OpenSpec.ofChange wireSendsSpec)

/-- ITS FALSE NEIGHBOUR: 'it returns false'. Refute it at one input. -/
def wireSendsWrong : ChangeSpec := { name := "wireSends", fn := fun _ => fun
  | [d] => { results := [.lit (.bool false)], args := [d] }
  | _ => none }
def WireSendsWrongFalsely : Prop := wireSendsRow.holds Tryd.pinned (OpenSpec.ofChange wireSendsWrong)

/-- 'wherrylaw.WireReads': WHATEVER THE INPUT: true; the input reads as it did. -/
def wireReadsSpec : ChangeSpec := { name := "wireReads", fn := fun _ => fun
  | [d] => { results := [.lit (.bool true)], args := [d] }
  | _ => none }
def wireReadsRow : OpenClaim := { program := "ytkelmppfijgecaadoor", sum := "785309ab9280a1827f12c812f6151540c4bdfaef4da1de075360ef14be91f0b4", func := "wherry/wherrylaw.WireReads", spec := "wireReads", named := ["unicode/utf8.first", "unicode/utf8.acceptRanges"], apart := false, laid := [("unicode/utf8.acceptRanges", laid_unicode_utf8_acceptRanges), ("unicode/utf8.first", laid_unicode_utf8_first)] }
def WireReadsSaid : Prop := wireReadsRow.holds Tryd.pinned (OpenSpec.ofChange wireReadsSpec)

/-- ITS FALSE NEIGHBOUR: 'it returns false'. Refute it at one input. -/
def wireReadsWrong : ChangeSpec := { name := "wireReads", fn := fun _ => fun
  | [d] => { results := [.lit (.bool false)], args := [d] }
  | _ => none }
def WireReadsWrongFalsely : Prop := wireReadsRow.holds Tryd.pinned (OpenSpec.ofChange wireReadsWrong)

/-- 'wherrylaw.TapeAppends': WHATEVER THE INPUT: true; the input reads as it did. -/
def tapeAppendsSpec : ChangeSpec := { name := "tapeAppends", fn := fun _ => fun
  | [d1, d2] => { results := [.lit (.bool true)], args := [d1, d2] }
  | _ => none }
def tapeAppendsRow : OpenClaim := { program := "ytkelmppfijgecaadoor", sum := "785309ab9280a1827f12c812f6151540c4bdfaef4da1de075360ef14be91f0b4", func := "wherry/wherrylaw.TapeAppends", spec := "tapeAppends", recurses := true, named := ["unicode/utf8.first", "unicode/utf8.acceptRanges"], apart := false, laid := [("unicode/utf8.acceptRanges", laid_unicode_utf8_acceptRanges), ("unicode/utf8.first", laid_unicode_utf8_first)] }
def TapeAppendsSaid : Prop := tapeAppendsRow.holds Tryd.pinned (OpenSpec.ofChange tapeAppendsSpec)

/-- ITS FALSE NEIGHBOUR: 'it returns false'. Refute it at one input. -/
def tapeAppendsWrong : ChangeSpec := { name := "tapeAppends", fn := fun _ => fun
  | [d1, d2] => { results := [.lit (.bool false)], args := [d1, d2] }
  | _ => none }
def TapeAppendsWrongFalsely : Prop := tapeAppendsRow.holds Tryd.pinned (OpenSpec.ofChange tapeAppendsWrong)

/- THE SECOND FORM. 'bulk': how many values and letters a reading holds, each counted each time it is reached (what is shared counts as often as it is met; a slice's spare places count too). A statement '..UptoSaid' is the law's where the arguments, and the package variables that the reading takes, are together of bulk at most 1048576: NARROWER than '..Said'. Prove '..Said' where nothing that the law and all that it calls make is longer than what came in: it says more and counts as full. Else prove '..UptoSaid'. A law counts once. -/
mutual
def uptoBulk {H : Type} : DataW H → Nat
  | .lit (.string bytes) => bytes.length + 1
  | .lit _ => 1
  | .nil => 1
  | .ptr d => uptoBulk d + 1
  | .slice elems spare => uptoBulkAll elems + uptoBulkAll spare + 1
  | .agg parts => uptoBulkAll parts + 1
  | .iface _ d => uptoBulk d + 1
  | .map entries => uptoBulkEntries entries + 1
  | .held _ => 1
def uptoBulkAll {H : Type} : List (DataW H) → Nat
  | [] => 0
  | d :: r => uptoBulk d + uptoBulkAll r
def uptoBulkEntries {H : Type} : List (Lit × DataW H) → Nat
  | [] => 0
  | x :: r => uptoBulkEntry x + uptoBulkEntries r
def uptoBulkEntry {H : Type} : Lit × DataW H → Nat
  | (.string bytes, d) => bytes.length + uptoBulk d + 1
  | (_, d) => uptoBulk d + 1
 end
def uptoSmall : (H : Type) → List (DataW H) → Bool := fun _ ds => decide (uptoBulkAll ds ≤ 1048576)
def OpenSpec.upto (s : _root_.Go.ChangeSpec) : _root_.Go.OpenSpec := { _root_.Go.OpenSpec.ofChange s with cond := some uptoSmall }

/-- 'wherrylaw.TextMoves', WHERE WHAT IT READS IS OF BULK AT MOST 1048576: true; the input reads as it did. -/
def textMovesUptoRow : OpenClaim := { program := "ytkelmppfijgecaadoor", sum := "785309ab9280a1827f12c812f6151540c4bdfaef4da1de075360ef14be91f0b4", func := "wherry/wherrylaw.TextMoves", spec := "textMoves", named := ["unicode/utf8.first", "unicode/utf8.acceptRanges"], apart := false, laid := [("unicode/utf8.acceptRanges", laid_unicode_utf8_acceptRanges), ("unicode/utf8.first", laid_unicode_utf8_first)], narrowed := true }
def TextMovesUptoSaid : Prop := textMovesUptoRow.holds Tryd.pinned (OpenSpec.upto textMovesSpec)

/-- 'wherrylaw.LinesChecks', WHERE WHAT IT READS IS OF BULK AT MOST 1048576: true; the input reads as it did. -/
def linesChecksUptoRow : OpenClaim := { program := "ytkelmppfijgecaadoor", sum := "785309ab9280a1827f12c812f6151540c4bdfaef4da1de075360ef14be91f0b4", func := "wherry/wherrylaw.LinesChecks", spec := "linesChecks", named := ["unicode/utf8.first", "unicode/utf8.acceptRanges"], apart := false, laid := [("unicode/utf8.acceptRanges", laid_unicode_utf8_acceptRanges), ("unicode/utf8.first", laid_unicode_utf8_first)], narrowed := true }
def LinesChecksUptoSaid : Prop := linesChecksUptoRow.holds Tryd.pinned (OpenSpec.upto linesChecksSpec)

/-- 'wherrylaw.WirePackets', WHERE WHAT IT READS IS OF BULK AT MOST 1048576: true; the input reads as it did. -/
def wirePacketsUptoRow : OpenClaim := { program := "ytkelmppfijgecaadoor", sum := "785309ab9280a1827f12c812f6151540c4bdfaef4da1de075360ef14be91f0b4", func := "wherry/wherrylaw.WirePackets", spec := "wirePackets", named := ["unicode/utf8.first", "unicode/utf8.acceptRanges"], apart := false, laid := [("unicode/utf8.acceptRanges", laid_unicode_utf8_acceptRanges), ("unicode/utf8.first", laid_unicode_utf8_first)], narrowed := true }
def WirePacketsUptoSaid : Prop := wirePacketsUptoRow.holds Tryd.pinned (OpenSpec.upto wirePacketsSpec)

/-- 'wherrylaw.WireWrites', WHERE WHAT IT READS IS OF BULK AT MOST 1048576: true; the input reads as it did. -/
def wireWritesUptoRow : OpenClaim := { program := "ytkelmppfijgecaadoor", sum := "785309ab9280a1827f12c812f6151540c4bdfaef4da1de075360ef14be91f0b4", func := "wherry/wherrylaw.WireWrites", spec := "wireWrites", recurses := true, named := ["unicode/utf8.first", "unicode/utf8.acceptRanges"], apart := false, laid := [("unicode/utf8.acceptRanges", laid_unicode_utf8_acceptRanges), ("unicode/utf8.first", laid_unicode_utf8_first)], narrowed := true }
def WireWritesUptoSaid : Prop := wireWritesUptoRow.holds Tryd.pinned (OpenSpec.upto wireWritesSpec)

/-- 'wherrylaw.TextApplies', WHERE WHAT IT READS IS OF BULK AT MOST 1048576: true; the input reads as it did. -/
def textAppliesUptoRow : OpenClaim := { program := "ytkelmppfijgecaadoor", sum := "785309ab9280a1827f12c812f6151540c4bdfaef4da1de075360ef14be91f0b4", func := "wherry/wherrylaw.TextApplies", spec := "textApplies", inPlace := ["internal/abi.NoEscape"], named := ["unicode/utf8.first", "unicode/utf8.acceptRanges"], apart := false, laid := [("unicode/utf8.acceptRanges", laid_unicode_utf8_acceptRanges), ("unicode/utf8.first", laid_unicode_utf8_first)], narrowed := true }
def TextAppliesUptoSaid : Prop := textAppliesUptoRow.holds Tryd.pinned (OpenSpec.upto textAppliesSpec)

/-- 'wherrylaw.LinkChecks', WHERE WHAT IT READS IS OF BULK AT MOST 1048576: true; the input reads as it did. -/
def linkChecksUptoRow : OpenClaim := { program := "ytkelmppfijgecaadoor", sum := "785309ab9280a1827f12c812f6151540c4bdfaef4da1de075360ef14be91f0b4", func := "wherry/wherrylaw.LinkChecks", spec := "linkChecks", unfollowed := true, recurses := true, named := ["unicode/utf8.first", "unicode/utf8.acceptRanges"], apart := false, laid := [("unicode/utf8.acceptRanges", laid_unicode_utf8_acceptRanges), ("unicode/utf8.first", laid_unicode_utf8_first)], narrowed := true }
def LinkChecksUptoSaid : Prop := linkChecksUptoRow.holds Tryd.pinned (OpenSpec.upto linkChecksSpec)

/-- 'wherrylaw.EdgeSends', WHERE WHAT IT READS IS OF BULK AT MOST 1048576: true; the input reads as it did. -/
def edgeSendsUptoRow : OpenClaim := { program := "ytkelmppfijgecaadoor", sum := "785309ab9280a1827f12c812f6151540c4bdfaef4da1de075360ef14be91f0b4", func := "wherry/wherrylaw.EdgeSends", spec := "edgeSends", named := ["unicode/utf8.first", "unicode/utf8.acceptRanges"], apart := false, laid := [("unicode/utf8.acceptRanges", laid_unicode_utf8_acceptRanges), ("unicode/utf8.first", laid_unicode_utf8_first)], narrowed := true }
def EdgeSendsUptoSaid : Prop := edgeSendsUptoRow.holds Tryd.pinned (OpenSpec.upto edgeSendsSpec)

/-- 'wherrylaw.TapeReplays', WHERE WHAT IT READS IS OF BULK AT MOST 1048576: true; the input reads as it did. -/
def tapeReplaysUptoRow : OpenClaim := { program := "ytkelmppfijgecaadoor", sum := "785309ab9280a1827f12c812f6151540c4bdfaef4da1de075360ef14be91f0b4", func := "wherry/wherrylaw.TapeReplays", spec := "tapeReplays", inPlace := ["internal/abi.NoEscape"], named := ["unicode/utf8.first", "unicode/utf8.acceptRanges"], apart := false, laid := [("unicode/utf8.acceptRanges", laid_unicode_utf8_acceptRanges), ("unicode/utf8.first", laid_unicode_utf8_first)], narrowed := true }
def TapeReplaysUptoSaid : Prop := tapeReplaysUptoRow.holds Tryd.pinned (OpenSpec.upto tapeReplaysSpec)

/-- 'wherrylaw.LinkTicks', WHERE WHAT IT READS IS OF BULK AT MOST 1048576: true; the input reads as it did. -/
def linkTicksUptoRow : OpenClaim := { program := "ytkelmppfijgecaadoor", sum := "785309ab9280a1827f12c812f6151540c4bdfaef4da1de075360ef14be91f0b4", func := "wherry/wherrylaw.LinkTicks", spec := "linkTicks", unfollowed := true, recurses := true, named := ["unicode/utf8.first", "unicode/utf8.acceptRanges"], apart := false, laid := [("unicode/utf8.acceptRanges", laid_unicode_utf8_acceptRanges), ("unicode/utf8.first", laid_unicode_utf8_first)], narrowed := true }
def LinkTicksUptoSaid : Prop := linkTicksUptoRow.holds Tryd.pinned (OpenSpec.upto linkTicksSpec)

/-- 'wherrylaw.WireSends', WHERE WHAT IT READS IS OF BULK AT MOST 1048576: true; the input reads as it did. -/
def wireSendsUptoRow : OpenClaim := { program := "ytkelmppfijgecaadoor", sum := "785309ab9280a1827f12c812f6151540c4bdfaef4da1de075360ef14be91f0b4", func := "wherry/wherrylaw.WireSends", spec := "wireSends", recurses := true, named := ["unicode/utf8.first", "unicode/utf8.acceptRanges"], apart := false, laid := [("unicode/utf8.acceptRanges", laid_unicode_utf8_acceptRanges), ("unicode/utf8.first", laid_unicode_utf8_first)], narrowed := true }
def WireSendsUptoSaid : Prop := wireSendsUptoRow.holds Tryd.pinned (OpenSpec.upto wireSendsSpec)

/-- 'wherrylaw.WireReads', WHERE WHAT IT READS IS OF BULK AT MOST 1048576: true; the input reads as it did. -/
def wireReadsUptoRow : OpenClaim := { program := "ytkelmppfijgecaadoor", sum := "785309ab9280a1827f12c812f6151540c4bdfaef4da1de075360ef14be91f0b4", func := "wherry/wherrylaw.WireReads", spec := "wireReads", named := ["unicode/utf8.first", "unicode/utf8.acceptRanges"], apart := false, laid := [("unicode/utf8.acceptRanges", laid_unicode_utf8_acceptRanges), ("unicode/utf8.first", laid_unicode_utf8_first)], narrowed := true }
def WireReadsUptoSaid : Prop := wireReadsUptoRow.holds Tryd.pinned (OpenSpec.upto wireReadsSpec)

/-- 'wherrylaw.TapeAppends', WHERE WHAT IT READS IS OF BULK AT MOST 1048576: true; the input reads as it did. -/
def tapeAppendsUptoRow : OpenClaim := { program := "ytkelmppfijgecaadoor", sum := "785309ab9280a1827f12c812f6151540c4bdfaef4da1de075360ef14be91f0b4", func := "wherry/wherrylaw.TapeAppends", spec := "tapeAppends", recurses := true, named := ["unicode/utf8.first", "unicode/utf8.acceptRanges"], apart := false, laid := [("unicode/utf8.acceptRanges", laid_unicode_utf8_acceptRanges), ("unicode/utf8.first", laid_unicode_utf8_first)], narrowed := true }
def TapeAppendsUptoSaid : Prop := tapeAppendsUptoRow.holds Tryd.pinned (OpenSpec.upto tapeAppendsSpec)

end Rows
end Go.Proofs.YtkelmppfijgecaaDoor
