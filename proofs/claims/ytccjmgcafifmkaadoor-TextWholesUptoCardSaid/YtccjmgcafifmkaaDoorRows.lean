/-
  NARROWER THAN 'FOR EVERY INPUT', by the rows' own cells (each row's printed sentence says how): TextChecks: laid · TextWholes: laid · TextOps: laid · WireRecords: laid · EdgeChecks: laid · WireFrames: laid.
  DERIVED. THE GIVEN ROWS OF THIS SEAT. 6 by the template 'for every input the law returns true; each argument reads behind the call as it read before'; 0 by the template 'total and deterministic' (their statements: YtccjmgcafifmkaaDoorTotals.lean).
  GIVEN WITH THE SEED: the statements are not yours to turn. If you find one false, say at which input.
  Laid BY PROGRAM, IN A SANDBOX (cutbox-rows.mjs): the forced cells as the released guide's own fill.sh prints them over the translation e3dba6188a4b3cbf… (all of the seat's roots in one cut). By AI agents, Wed Nov 11 2026. No macro, syntax, notation, axiom, sorry.
-/
import Derived.Test.YtccjmgcafifmkaaDoorChecked
import GoSem.PinnedTables
import GoSem.Claim
import GoSem.ClaimJoined
import GoSem.ClaimMapViews
import Derived.JoinedTies
import Derived.KernelRfl
namespace Go.Proofs.YtccjmgcafifmkaaDoor
/- THE CELL 'sum', in the pinned program and in every row, IS THE sha256 OF THE DUMP (.gsa) THAT YtccjmgcafifmkaaDoorProg.lean LOADS. Nothing in Lean hashes anything: it is a label: what it is worth is what the hold of that sum in a sandbox is worth. -/
noncomputable def Tryd.pinned : Pinned := { name := "ytccjmgcafifmkaadoor", sum := "e3dba6188a4b3cbf00916cf519fb772bc34e8028dcdf93ff276715d32e7b76ab", checked := Tryd.checked }
namespace Rows
def none {H : Type} : Left H := { results := [], args := [] }

/- WHAT THE LISTED PACKAGE-LEVEL VARIABLES READ AS WHEN THE CALL BEGINS. Each datum BY PROGRAM (the guide's laid-datum.mjs) off the statement by which the dump's own 'gosem.cut.vars' lays the variable. In a bare row this is a premise. The card (YtccjmgcafifmkaaDoorCards.lean) ties it to the program's text. -/
def laid_unicode_utf8_acceptRanges {H : Type} : DataW H := .agg [.agg [.lit (.int .u8 128), .lit (.int .u8 191)], .agg [.lit (.int .u8 160), .lit (.int .u8 191)], .agg [.lit (.int .u8 128), .lit (.int .u8 159)], .agg [.lit (.int .u8 144), .lit (.int .u8 191)], .agg [.lit (.int .u8 128), .lit (.int .u8 143)], .agg [.lit (.int .u8 0), .lit (.int .u8 0)], .agg [.lit (.int .u8 0), .lit (.int .u8 0)], .agg [.lit (.int .u8 0), .lit (.int .u8 0)], .agg [.lit (.int .u8 0), .lit (.int .u8 0)], .agg [.lit (.int .u8 0), .lit (.int .u8 0)], .agg [.lit (.int .u8 0), .lit (.int .u8 0)], .agg [.lit (.int .u8 0), .lit (.int .u8 0)], .agg [.lit (.int .u8 0), .lit (.int .u8 0)], .agg [.lit (.int .u8 0), .lit (.int .u8 0)], .agg [.lit (.int .u8 0), .lit (.int .u8 0)], .agg [.lit (.int .u8 0), .lit (.int .u8 0)]]
/-- One of Go's own tables, pinned by name: the form's constant. -/
def laid_unicode_utf8_first : DataW Unit := Go.Pinned.utf8First

/-- 'wherrylaw.TextChecks': WHATEVER THE INPUT: true; the input reads as it did. -/
def textChecksSpec : ChangeSpec := { name := "textChecks", fn := fun _ => fun
  | [d] => { results := [.lit (.bool true)], args := [d] }
  | _ => none }
def textChecksRow : OpenClaim := { program := "ytccjmgcafifmkaadoor", sum := "e3dba6188a4b3cbf00916cf519fb772bc34e8028dcdf93ff276715d32e7b76ab", func := "wherry/wherrylaw.TextChecks", spec := "textChecks", named := ["unicode/utf8.first", "unicode/utf8.acceptRanges"], apart := false, laid := [("unicode/utf8.acceptRanges", laid_unicode_utf8_acceptRanges), ("unicode/utf8.first", laid_unicode_utf8_first)] }
def TextChecksSaid : Prop := textChecksRow.holds Tryd.pinned (OpenSpec.ofChange textChecksSpec)

/-- ITS FALSE NEIGHBOUR: 'it returns false'. Refute it at one input. -/
def textChecksWrong : ChangeSpec := { name := "textChecks", fn := fun _ => fun
  | [d] => { results := [.lit (.bool false)], args := [d] }
  | _ => none }
def TextChecksWrongFalsely : Prop := textChecksRow.holds Tryd.pinned (OpenSpec.ofChange textChecksWrong)

/-- 'wherrylaw.TextWholes': WHATEVER THE INPUT: true; the input reads as it did. -/
def textWholesSpec : ChangeSpec := { name := "textWholes", fn := fun _ => fun
  | [d1, d2] => { results := [.lit (.bool true)], args := [d1, d2] }
  | _ => none }
def textWholesRow : OpenClaim := { program := "ytccjmgcafifmkaadoor", sum := "e3dba6188a4b3cbf00916cf519fb772bc34e8028dcdf93ff276715d32e7b76ab", func := "wherry/wherrylaw.TextWholes", spec := "textWholes", recurses := true, named := ["unicode/utf8.first", "unicode/utf8.acceptRanges"], apart := false, laid := [("unicode/utf8.acceptRanges", laid_unicode_utf8_acceptRanges), ("unicode/utf8.first", laid_unicode_utf8_first)] }
def TextWholesSaid : Prop := textWholesRow.holds Tryd.pinned (OpenSpec.ofChange textWholesSpec)

/-- ITS FALSE NEIGHBOUR: 'it returns false'. Refute it at one input. -/
def textWholesWrong : ChangeSpec := { name := "textWholes", fn := fun _ => fun
  | [d1, d2] => { results := [.lit (.bool false)], args := [d1, d2] }
  | _ => none }
def TextWholesWrongFalsely : Prop := textWholesRow.holds Tryd.pinned (OpenSpec.ofChange textWholesWrong)

/-- 'wherrylaw.TextOps': WHATEVER THE INPUT: true; the input reads as it did. -/
def textOpsSpec : ChangeSpec := { name := "textOps", fn := fun _ => fun
  | [d] => { results := [.lit (.bool true)], args := [d] }
  | _ => none }
def textOpsRow : OpenClaim := { program := "ytccjmgcafifmkaadoor", sum := "e3dba6188a4b3cbf00916cf519fb772bc34e8028dcdf93ff276715d32e7b76ab", func := "wherry/wherrylaw.TextOps", spec := "textOps", named := ["unicode/utf8.first", "unicode/utf8.acceptRanges"], apart := false, laid := [("unicode/utf8.acceptRanges", laid_unicode_utf8_acceptRanges), ("unicode/utf8.first", laid_unicode_utf8_first)] }
def TextOpsSaid : Prop := textOpsRow.holds Tryd.pinned (OpenSpec.ofChange textOpsSpec)

/-- ITS FALSE NEIGHBOUR: 'it returns false'. Refute it at one input. -/
def textOpsWrong : ChangeSpec := { name := "textOps", fn := fun _ => fun
  | [d] => { results := [.lit (.bool false)], args := [d] }
  | _ => none }
def TextOpsWrongFalsely : Prop := textOpsRow.holds Tryd.pinned (OpenSpec.ofChange textOpsWrong)

/-- 'wherrylaw.WireRecords': WHATEVER THE INPUT: true; the input reads as it did. -/
def wireRecordsSpec : ChangeSpec := { name := "wireRecords", fn := fun _ => fun
  | [d] => { results := [.lit (.bool true)], args := [d] }
  | _ => none }
def wireRecordsRow : OpenClaim := { program := "ytccjmgcafifmkaadoor", sum := "e3dba6188a4b3cbf00916cf519fb772bc34e8028dcdf93ff276715d32e7b76ab", func := "wherry/wherrylaw.WireRecords", spec := "wireRecords", named := ["unicode/utf8.first", "unicode/utf8.acceptRanges"], apart := false, laid := [("unicode/utf8.acceptRanges", laid_unicode_utf8_acceptRanges), ("unicode/utf8.first", laid_unicode_utf8_first)] }
def WireRecordsSaid : Prop := wireRecordsRow.holds Tryd.pinned (OpenSpec.ofChange wireRecordsSpec)

/-- ITS FALSE NEIGHBOUR: 'it returns false'. Refute it at one input. -/
def wireRecordsWrong : ChangeSpec := { name := "wireRecords", fn := fun _ => fun
  | [d] => { results := [.lit (.bool false)], args := [d] }
  | _ => none }
def WireRecordsWrongFalsely : Prop := wireRecordsRow.holds Tryd.pinned (OpenSpec.ofChange wireRecordsWrong)

/-- 'wherrylaw.EdgeChecks': WHATEVER THE INPUT: true; the input reads as it did. -/
def edgeChecksSpec : ChangeSpec := { name := "edgeChecks", fn := fun _ => fun
  | [d] => { results := [.lit (.bool true)], args := [d] }
  | _ => none }
def edgeChecksRow : OpenClaim := { program := "ytccjmgcafifmkaadoor", sum := "e3dba6188a4b3cbf00916cf519fb772bc34e8028dcdf93ff276715d32e7b76ab", func := "wherry/wherrylaw.EdgeChecks", spec := "edgeChecks", named := ["unicode/utf8.first", "unicode/utf8.acceptRanges"], apart := false, laid := [("unicode/utf8.acceptRanges", laid_unicode_utf8_acceptRanges), ("unicode/utf8.first", laid_unicode_utf8_first)] }
def EdgeChecksSaid : Prop := edgeChecksRow.holds Tryd.pinned (OpenSpec.ofChange edgeChecksSpec)

/-- ITS FALSE NEIGHBOUR: 'it returns false'. Refute it at one input. -/
def edgeChecksWrong : ChangeSpec := { name := "edgeChecks", fn := fun _ => fun
  | [d] => { results := [.lit (.bool false)], args := [d] }
  | _ => none }
def EdgeChecksWrongFalsely : Prop := edgeChecksRow.holds Tryd.pinned (OpenSpec.ofChange edgeChecksWrong)

/-- 'wherrylaw.WireFrames': WHATEVER THE INPUT: true; the input reads as it did. -/
def wireFramesSpec : ChangeSpec := { name := "wireFrames", fn := fun _ => fun
  | [d] => { results := [.lit (.bool true)], args := [d] }
  | _ => none }
def wireFramesRow : OpenClaim := { program := "ytccjmgcafifmkaadoor", sum := "e3dba6188a4b3cbf00916cf519fb772bc34e8028dcdf93ff276715d32e7b76ab", func := "wherry/wherrylaw.WireFrames", spec := "wireFrames", named := ["unicode/utf8.first", "unicode/utf8.acceptRanges"], apart := false, laid := [("unicode/utf8.acceptRanges", laid_unicode_utf8_acceptRanges), ("unicode/utf8.first", laid_unicode_utf8_first)] }
def WireFramesSaid : Prop := wireFramesRow.holds Tryd.pinned (OpenSpec.ofChange wireFramesSpec)

/-- ITS FALSE NEIGHBOUR: 'it returns false'. Refute it at one input. -/
def wireFramesWrong : ChangeSpec := { name := "wireFrames", fn := fun _ => fun
  | [d] => { results := [.lit (.bool false)], args := [d] }
  | _ => none }
def WireFramesWrongFalsely : Prop := wireFramesRow.holds Tryd.pinned (OpenSpec.ofChange wireFramesWrong)

/- THE SECOND FORM. 'bulk': how many values and letters a reading holds, each counted each time it is reached (what is shared counts as often as it is met; a slice's spare places count too). A statement '..UptoSaid' is the law's where the arguments, and the package variables that the reading takes, are together of bulk at most 1048576: NARROWER than '..Said'. Prove '..Said' where nothing that the law and all that it calls make is longer than what came in: it says more and counts as full. Else prove '..UptoSaid'. A law counts once. -/
mutual
def uptoBulk {H : Type} : DataW H → Nat
  | .lit (.string bytes) => bytes.length + 1
  | .lit _ => 1
  | .nil => 1
  | .ptr d => uptoBulk d + 1
  | .slice elems spare => uptoBulkAll elems + uptoBulkAll spare + 1
  | .agg parts => uptoBulkAll parts + 1
  | .iface _ d => uptoBulk d + 1
  | .map entries => uptoBulkEntries entries + 1
  | .held _ => 1
def uptoBulkAll {H : Type} : List (DataW H) → Nat
  | [] => 0
  | d :: r => uptoBulk d + uptoBulkAll r
def uptoBulkEntries {H : Type} : List (Lit × DataW H) → Nat
  | [] => 0
  | x :: r => uptoBulkEntry x + uptoBulkEntries r
def uptoBulkEntry {H : Type} : Lit × DataW H → Nat
  | (.string bytes, d) => bytes.length + uptoBulk d + 1
  | (_, d) => uptoBulk d + 1
 end
def uptoSmall : (H : Type) → List (DataW H) → Bool := fun _ ds => decide (uptoBulkAll ds ≤ 1048576)
def OpenSpec.upto (s : _root_.Go.ChangeSpec) : _root_.Go.OpenSpec := { _root_.Go.OpenSpec.ofChange s with cond := some uptoSmall }

/-- 'wherrylaw.TextChecks', WHERE WHAT IT READS IS OF BULK AT MOST 1048576: true; the input reads as it did. -/
def textChecksUptoRow : OpenClaim := { program := "ytccjmgcafifmkaadoor", sum := "e3dba6188a4b3cbf00916cf519fb772bc34e8028dcdf93ff276715d32e7b76ab", func := "wherry/wherrylaw.TextChecks", spec := "textChecks", named := ["unicode/utf8.first", "unicode/utf8.acceptRanges"], apart := false, laid := [("unicode/utf8.acceptRanges", laid_unicode_utf8_acceptRanges), ("unicode/utf8.first", laid_unicode_utf8_first)], narrowed := true }
def TextChecksUptoSaid : Prop := textChecksUptoRow.holds Tryd.pinned (OpenSpec.upto textChecksSpec)

/-- 'wherrylaw.TextWholes', WHERE WHAT IT READS IS OF BULK AT MOST 1048576: true; the input reads as it did. -/
def textWholesUptoRow : OpenClaim := { program := "ytccjmgcafifmkaadoor", sum := "e3dba6188a4b3cbf00916cf519fb772bc34e8028dcdf93ff276715d32e7b76ab", func := "wherry/wherrylaw.TextWholes", spec := "textWholes", recurses := true, named := ["unicode/utf8.first", "unicode/utf8.acceptRanges"], apart := false, laid := [("unicode/utf8.acceptRanges", laid_unicode_utf8_acceptRanges), ("unicode/utf8.first", laid_unicode_utf8_first)], narrowed := true }
def TextWholesUptoSaid : Prop := textWholesUptoRow.holds Tryd.pinned (OpenSpec.upto textWholesSpec)

/-- 'wherrylaw.TextOps', WHERE WHAT IT READS IS OF BULK AT MOST 1048576: true; the input reads as it did. -/
def textOpsUptoRow : OpenClaim := { program := "ytccjmgcafifmkaadoor", sum := "e3dba6188a4b3cbf00916cf519fb772bc34e8028dcdf93ff276715d32e7b76ab", func := "wherry/wherrylaw.TextOps", spec := "textOps", named := ["unicode/utf8.first", "unicode/utf8.acceptRanges"], apart := false, laid := [("unicode/utf8.acceptRanges", laid_unicode_utf8_acceptRanges), ("unicode/utf8.first", laid_unicode_utf8_first)], narrowed := true }
def TextOpsUptoSaid : Prop := textOpsUptoRow.holds Tryd.pinned (OpenSpec.upto textOpsSpec)

/-- 'wherrylaw.WireRecords', WHERE WHAT IT READS IS OF BULK AT MOST 1048576: true; the input reads as it did. -/
def wireRecordsUptoRow : OpenClaim := { program := "ytccjmgcafifmkaadoor", sum := "e3dba6188a4b3cbf00916cf519fb772bc34e8028dcdf93ff276715d32e7b76ab", func := "wherry/wherrylaw.WireRecords", spec := "wireRecords", named := ["unicode/utf8.first", "unicode/utf8.acceptRanges"], apart := false, laid := [("unicode/utf8.acceptRanges", laid_unicode_utf8_acceptRanges), ("unicode/utf8.first", laid_unicode_utf8_first)], narrowed := true }
def WireRecordsUptoSaid : Prop := wireRecordsUptoRow.holds Tryd.pinned (OpenSpec.upto wireRecordsSpec)

/-- 'wherrylaw.EdgeChecks', WHERE WHAT IT READS IS OF BULK AT MOST 1048576: true; the input reads as it did. -/
def edgeChecksUptoRow : OpenClaim := { program := "ytccjmgcafifmkaadoor", sum := "e3dba6188a4b3cbf00916cf519fb772bc34e8028dcdf93ff276715d32e7b76ab", func := "wherry/wherrylaw.EdgeChecks", spec := "edgeChecks", named := ["unicode/utf8.first", "unicode/utf8.acceptRanges"], apart := false, laid := [("unicode/utf8.acceptRanges", laid_unicode_utf8_acceptRanges), ("unicode/utf8.first", laid_unicode_utf8_first)], narrowed := true }
def EdgeChecksUptoSaid : Prop := edgeChecksUptoRow.holds Tryd.pinned (OpenSpec.upto edgeChecksSpec)

/-- 'wherrylaw.WireFrames', WHERE WHAT IT READS IS OF BULK AT MOST 1048576: true; the input reads as it did. -/
def wireFramesUptoRow : OpenClaim := { program := "ytccjmgcafifmkaadoor", sum := "e3dba6188a4b3cbf00916cf519fb772bc34e8028dcdf93ff276715d32e7b76ab", func := "wherry/wherrylaw.WireFrames", spec := "wireFrames", named := ["unicode/utf8.first", "unicode/utf8.acceptRanges"], apart := false, laid := [("unicode/utf8.acceptRanges", laid_unicode_utf8_acceptRanges), ("unicode/utf8.first", laid_unicode_utf8_first)], narrowed := true }
def WireFramesUptoSaid : Prop := wireFramesUptoRow.holds Tryd.pinned (OpenSpec.upto wireFramesSpec)

end Rows
end Go.Proofs.YtccjmgcafifmkaaDoor
