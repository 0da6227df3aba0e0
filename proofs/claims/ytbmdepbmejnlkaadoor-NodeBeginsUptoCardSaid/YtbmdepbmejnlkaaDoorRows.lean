/-
  NARROWER THAN 'FOR EVERY INPUT', by the rows' own cells (each row's printed sentence says how): NodeChecks: laid · NodeBegins: laid · EdgeHears: laid · NodeSelects: laid · NodeTicks: laid.
  DERIVED. THE GIVEN ROWS OF THIS SEAT. 5 by the template 'for every input the law returns true; each argument reads behind the call as it read before'; 0 by the template 'total and deterministic' (their statements: YtbmdepbmejnlkaaDoorTotals.lean).
  GIVEN WITH THE SEED: the statements are not yours to turn. If you find one false, say at which input.
  Laid BY PROGRAM, IN A SANDBOX (cutbox-rows.mjs): the forced cells as the released guide's own fill.sh prints them over the translation d9e3378487076ea7… (all of the seat's roots in one cut). By AI agents, Wed Nov 11 2026. No macro, syntax, notation, axiom, sorry.
-/
import Derived.Test.YtbmdepbmejnlkaaDoorChecked
import GoSem.PinnedTables
import GoSem.Claim
import GoSem.ClaimJoined
import GoSem.ClaimMapViews
import Derived.JoinedTies
import Derived.KernelRfl
namespace Go.Proofs.YtbmdepbmejnlkaaDoor
/- THE CELL 'sum', in the pinned program and in every row, IS THE sha256 OF THE DUMP (.gsa) THAT YtbmdepbmejnlkaaDoorProg.lean LOADS. Nothing in Lean hashes anything: it is a label: what it is worth is what the hold of that sum in a sandbox is worth. -/
noncomputable def Tryd.pinned : Pinned := { name := "ytbmdepbmejnlkaadoor", sum := "d9e3378487076ea7216b65895374ff4ce535b066ba3d32c7a2bb54baf794aa2d", checked := Tryd.checked }
namespace Rows
def none {H : Type} : Left H := { results := [], args := [] }

/- WHAT THE LISTED PACKAGE-LEVEL VARIABLES READ AS WHEN THE CALL BEGINS. Each datum BY PROGRAM (the guide's laid-datum.mjs) off the statement by which the dump's own 'gosem.cut.vars' lays the variable. In a bare row this is a premise. The card (YtbmdepbmejnlkaaDoorCards.lean) ties it to the program's text. -/
def laid_unicode_utf8_acceptRanges {H : Type} : DataW H := .agg [.agg [.lit (.int .u8 128), .lit (.int .u8 191)], .agg [.lit (.int .u8 160), .lit (.int .u8 191)], .agg [.lit (.int .u8 128), .lit (.int .u8 159)], .agg [.lit (.int .u8 144), .lit (.int .u8 191)], .agg [.lit (.int .u8 128), .lit (.int .u8 143)], .agg [.lit (.int .u8 0), .lit (.int .u8 0)], .agg [.lit (.int .u8 0), .lit (.int .u8 0)], .agg [.lit (.int .u8 0), .lit (.int .u8 0)], .agg [.lit (.int .u8 0), .lit (.int .u8 0)], .agg [.lit (.int .u8 0), .lit (.int .u8 0)], .agg [.lit (.int .u8 0), .lit (.int .u8 0)], .agg [.lit (.int .u8 0), .lit (.int .u8 0)], .agg [.lit (.int .u8 0), .lit (.int .u8 0)], .agg [.lit (.int .u8 0), .lit (.int .u8 0)], .agg [.lit (.int .u8 0), .lit (.int .u8 0)], .agg [.lit (.int .u8 0), .lit (.int .u8 0)]]
/-- One of Go's own tables, pinned by name: the form's constant. -/
def laid_unicode_utf8_first : DataW Unit := Go.Pinned.utf8First

/-- 'wherrylaw.NodeChecks': WHATEVER THE INPUT: true; the input reads as it did. -/
def nodeChecksSpec : ChangeSpec := { name := "nodeChecks", fn := fun _ => fun
  | [d1, d2] => { results := [.lit (.bool true)], args := [d1, d2] }
  | _ => none }
def nodeChecksRow : OpenClaim := { program := "ytbmdepbmejnlkaadoor", sum := "d9e3378487076ea7216b65895374ff4ce535b066ba3d32c7a2bb54baf794aa2d", func := "wherry/wherrylaw.NodeChecks", spec := "nodeChecks", unfollowed := true, recurses := true, named := ["unicode/utf8.first", "unicode/utf8.acceptRanges"], apart := false, laid := [("unicode/utf8.acceptRanges", laid_unicode_utf8_acceptRanges), ("unicode/utf8.first", laid_unicode_utf8_first)] }
def NodeChecksSaid : Prop := nodeChecksRow.holds Tryd.pinned (OpenSpec.ofChange nodeChecksSpec)

/-- ITS FALSE NEIGHBOUR: 'it returns false'. Refute it at one input. -/
def nodeChecksWrong : ChangeSpec := { name := "nodeChecks", fn := fun _ => fun
  | [d1, d2] => { results := [.lit (.bool false)], args := [d1, d2] }
  | _ => none }
def NodeChecksWrongFalsely : Prop := nodeChecksRow.holds Tryd.pinned (OpenSpec.ofChange nodeChecksWrong)

/-- 'wherrylaw.NodeBegins': WHATEVER THE INPUT: true; the input reads as it did. -/
def nodeBeginsSpec : ChangeSpec := { name := "nodeBegins", fn := fun _ => fun
  | [d1, d2, d3, d4] => { results := [.lit (.bool true)], args := [d1, d2, d3, d4] }
  | _ => none }
def nodeBeginsRow : OpenClaim := { program := "ytbmdepbmejnlkaadoor", sum := "d9e3378487076ea7216b65895374ff4ce535b066ba3d32c7a2bb54baf794aa2d", func := "wherry/wherrylaw.NodeBegins", spec := "nodeBegins", unfollowed := true, recurses := true, named := ["unicode/utf8.first", "unicode/utf8.acceptRanges"], apart := false, laid := [("unicode/utf8.acceptRanges", laid_unicode_utf8_acceptRanges), ("unicode/utf8.first", laid_unicode_utf8_first)] }
def NodeBeginsSaid : Prop := nodeBeginsRow.holds Tryd.pinned (OpenSpec.ofChange nodeBeginsSpec)

/-- ITS FALSE NEIGHBOUR: 'it returns false'. Refute it at one input. -/
def nodeBeginsWrong : ChangeSpec := { name := "nodeBegins", fn := fun _ => fun
  | [d1, d2, d3, d4] => { results := [.lit (.bool false)], args := [d1, d2, d3, d4] }
  | _ => none }
def NodeBeginsWrongFalsely : Prop := nodeBeginsRow.holds Tryd.pinned (OpenSpec.ofChange nodeBeginsWrong)

/-- 'wherrylaw.EdgeHears': WHATEVER THE INPUT: true; the input reads as it did. -/
def edgeHearsSpec : ChangeSpec := { name := "edgeHears", fn := fun _ => fun
  | [d1, d2, d3, d4] => { results := [.lit (.bool true)], args := [d1, d2, d3, d4] }
  | _ => none }
def edgeHearsRow : OpenClaim := { program := "ytbmdepbmejnlkaadoor", sum := "d9e3378487076ea7216b65895374ff4ce535b066ba3d32c7a2bb54baf794aa2d", func := "wherry/wherrylaw.EdgeHears", spec := "edgeHears", recurses := true, named := ["unicode/utf8.first", "unicode/utf8.acceptRanges"], apart := false, laid := [("unicode/utf8.acceptRanges", laid_unicode_utf8_acceptRanges), ("unicode/utf8.first", laid_unicode_utf8_first)] }
def EdgeHearsSaid : Prop := edgeHearsRow.holds Tryd.pinned (OpenSpec.ofChange edgeHearsSpec)

/-- ITS FALSE NEIGHBOUR: 'it returns false'. Refute it at one input. -/
def edgeHearsWrong : ChangeSpec := { name := "edgeHears", fn := fun _ => fun
  | [d1, d2, d3, d4] => { results := [.lit (.bool false)], args := [d1, d2, d3, d4] }
  | _ => none }
def EdgeHearsWrongFalsely : Prop := edgeHearsRow.holds Tryd.pinned (OpenSpec.ofChange edgeHearsWrong)

/-- 'wherrylaw.NodeSelects': WHATEVER THE INPUT: true; the input reads as it did. -/
def nodeSelectsSpec : ChangeSpec := { name := "nodeSelects", fn := fun _ => fun
  | [d1, d2, d3] => { results := [.lit (.bool true)], args := [d1, d2, d3] }
  | _ => none }
def nodeSelectsRow : OpenClaim := { program := "ytbmdepbmejnlkaadoor", sum := "d9e3378487076ea7216b65895374ff4ce535b066ba3d32c7a2bb54baf794aa2d", func := "wherry/wherrylaw.NodeSelects", spec := "nodeSelects", unfollowed := true, recurses := true, named := ["unicode/utf8.first", "unicode/utf8.acceptRanges"], apart := false, laid := [("unicode/utf8.acceptRanges", laid_unicode_utf8_acceptRanges), ("unicode/utf8.first", laid_unicode_utf8_first)] }
def NodeSelectsSaid : Prop := nodeSelectsRow.holds Tryd.pinned (OpenSpec.ofChange nodeSelectsSpec)

/-- ITS FALSE NEIGHBOUR: 'it returns false'. Refute it at one input. -/
def nodeSelectsWrong : ChangeSpec := { name := "nodeSelects", fn := fun _ => fun
  | [d1, d2, d3] => { results := [.lit (.bool false)], args := [d1, d2, d3] }
  | _ => none }
def NodeSelectsWrongFalsely : Prop := nodeSelectsRow.holds Tryd.pinned (OpenSpec.ofChange nodeSelectsWrong)

/-- 'wherrylaw.NodeTicks': WHATEVER THE INPUT: true; the input reads as it did. -/
def nodeTicksSpec : ChangeSpec := { name := "nodeTicks", fn := fun _ => fun
  | [d1, d2] => { results := [.lit (.bool true)], args := [d1, d2] }
  | _ => none }
def nodeTicksRow : OpenClaim := { program := "ytbmdepbmejnlkaadoor", sum := "d9e3378487076ea7216b65895374ff4ce535b066ba3d32c7a2bb54baf794aa2d", func := "wherry/wherrylaw.NodeTicks", spec := "nodeTicks", unfollowed := true, recurses := true, named := ["unicode/utf8.first", "unicode/utf8.acceptRanges"], apart := false, laid := [("unicode/utf8.acceptRanges", laid_unicode_utf8_acceptRanges), ("unicode/utf8.first", laid_unicode_utf8_first)] }
def NodeTicksSaid : Prop := nodeTicksRow.holds Tryd.pinned (OpenSpec.ofChange nodeTicksSpec)

/-- ITS FALSE NEIGHBOUR: 'it returns false'. Refute it at one input. -/
def nodeTicksWrong : ChangeSpec := { name := "nodeTicks", fn := fun _ => fun
  | [d1, d2] => { results := [.lit (.bool false)], args := [d1, d2] }
  | _ => none }
def NodeTicksWrongFalsely : Prop := nodeTicksRow.holds Tryd.pinned (OpenSpec.ofChange nodeTicksWrong)

/- THE SECOND FORM. 'bulk': how many values and letters a reading holds, each counted each time it is reached (what is shared counts as often as it is met; a slice's spare places count too). A statement '..UptoSaid' is the law's where the arguments, and the package variables that the reading takes, are together of bulk at most 1048576: NARROWER than '..Said'. Prove '..Said' where nothing that the law and all that it calls make is longer than what came in: it says more and counts as full. Else prove '..UptoSaid'. A law counts once. -/
mutual
def uptoBulk {H : Type} : DataW H → Nat
  | .lit (.string bytes) => bytes.length + 1
  | .lit _ => 1
  | .nil => 1
  | .ptr d => uptoBulk d + 1
  | .slice elems spare => uptoBulkAll elems + uptoBulkAll spare + 1
  | .agg parts => uptoBulkAll parts + 1
  | .iface _ d => uptoBulk d + 1
  | .map entries => uptoBulkEntries entries + 1
  | .held _ => 1
def uptoBulkAll {H : Type} : List (DataW H) → Nat
  | [] => 0
  | d :: r => uptoBulk d + uptoBulkAll r
def uptoBulkEntries {H : Type} : List (Lit × DataW H) → Nat
  | [] => 0
  | x :: r => uptoBulkEntry x + uptoBulkEntries r
def uptoBulkEntry {H : Type} : Lit × DataW H → Nat
  | (.string bytes, d) => bytes.length + uptoBulk d + 1
  | (_, d) => uptoBulk d + 1
 end
def uptoSmall : (H : Type) → List (DataW H) → Bool := fun _ ds => decide (uptoBulkAll ds ≤ 1048576)
def OpenSpec.upto (s : _root_.Go.ChangeSpec) : _root_.Go.OpenSpec := { _root_.Go.OpenSpec.ofChange s with cond := some uptoSmall }

/-- 'wherrylaw.NodeChecks', WHERE WHAT IT READS IS OF BULK AT MOST 1048576: true; the input reads as it did. -/
def nodeChecksUptoRow : OpenClaim := { program := "ytbmdepbmejnlkaadoor", sum := "d9e3378487076ea7216b65895374ff4ce535b066ba3d32c7a2bb54baf794aa2d", func := "wherry/wherrylaw.NodeChecks", spec := "nodeChecks", unfollowed := true, recurses := true, named := ["unicode/utf8.first", "unicode/utf8.acceptRanges"], apart := false, laid := [("unicode/utf8.acceptRanges", laid_unicode_utf8_acceptRanges), ("unicode/utf8.first", laid_unicode_utf8_first)], narrowed := true }
def NodeChecksUptoSaid : Prop := nodeChecksUptoRow.holds Tryd.pinned (OpenSpec.upto nodeChecksSpec)

/-- 'wherrylaw.NodeBegins', WHERE WHAT IT READS IS OF BULK AT MOST 1048576: true; the input reads as it did. -/
def nodeBeginsUptoRow : OpenClaim := { program := "ytbmdepbmejnlkaadoor", sum := "d9e3378487076ea7216b65895374ff4ce535b066ba3d32c7a2bb54baf794aa2d", func := "wherry/wherrylaw.NodeBegins", spec := "nodeBegins", unfollowed := true, recurses := true, named := ["unicode/utf8.first", "unicode/utf8.acceptRanges"], apart := false, laid := [("unicode/utf8.acceptRanges", laid_unicode_utf8_acceptRanges), ("unicode/utf8.first", laid_unicode_utf8_first)], narrowed := true }
def NodeBeginsUptoSaid : Prop := nodeBeginsUptoRow.holds Tryd.pinned (OpenSpec.upto nodeBeginsSpec)

/-- 'wherrylaw.EdgeHears', WHERE WHAT IT READS IS OF BULK AT MOST 1048576: true; the input reads as it did. -/
def edgeHearsUptoRow : OpenClaim := { program := "ytbmdepbmejnlkaadoor", sum := "d9e3378487076ea7216b65895374ff4ce535b066ba3d32c7a2bb54baf794aa2d", func := "wherry/wherrylaw.EdgeHears", spec := "edgeHears", recurses := true, named := ["unicode/utf8.first", "unicode/utf8.acceptRanges"], apart := false, laid := [("unicode/utf8.acceptRanges", laid_unicode_utf8_acceptRanges), ("unicode/utf8.first", laid_unicode_utf8_first)], narrowed := true }
def EdgeHearsUptoSaid : Prop := edgeHearsUptoRow.holds Tryd.pinned (OpenSpec.upto edgeHearsSpec)

/-- 'wherrylaw.NodeSelects', WHERE WHAT IT READS IS OF BULK AT MOST 1048576: true; the input reads as it did. -/
def nodeSelectsUptoRow : OpenClaim := { program := "ytbmdepbmejnlkaadoor", sum := "d9e3378487076ea7216b65895374ff4ce535b066ba3d32c7a2bb54baf794aa2d", func := "wherry/wherrylaw.NodeSelects", spec := "nodeSelects", unfollowed := true, recurses := true, named := ["unicode/utf8.first", "unicode/utf8.acceptRanges"], apart := false, laid := [("unicode/utf8.acceptRanges", laid_unicode_utf8_acceptRanges), ("unicode/utf8.first", laid_unicode_utf8_first)], narrowed := true }
def NodeSelectsUptoSaid : Prop := nodeSelectsUptoRow.holds Tryd.pinned (OpenSpec.upto nodeSelectsSpec)

/-- 'wherrylaw.NodeTicks', WHERE WHAT IT READS IS OF BULK AT MOST 1048576: true; the input reads as it did. -/
def nodeTicksUptoRow : OpenClaim := { program := "ytbmdepbmejnlkaadoor", sum := "d9e3378487076ea7216b65895374ff4ce535b066ba3d32c7a2bb54baf794aa2d", func := "wherry/wherrylaw.NodeTicks", spec := "nodeTicks", unfollowed := true, recurses := true, named := ["unicode/utf8.first", "unicode/utf8.acceptRanges"], apart := false, laid := [("unicode/utf8.acceptRanges", laid_unicode_utf8_acceptRanges), ("unicode/utf8.first", laid_unicode_utf8_first)], narrowed := true }
def NodeTicksUptoSaid : Prop := nodeTicksUptoRow.holds Tryd.pinned (OpenSpec.upto nodeTicksSpec)

end Rows
end Go.Proofs.YtbmdepbmejnlkaaDoor
