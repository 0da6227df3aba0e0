/-
  No cell of these rows narrows 'for every input' (looked for: loops, veiled, ifaces, maps, wideKeys, modest, calm, conditions, laid).
  DERIVED. THE GIVEN ROWS OF THIS SEAT. 6 by the template 'for every input the law returns true; each argument reads behind the call as it read before'; 0 by the template 'total and deterministic' (their statements: YtccjmgcafifmkaaTotals.lean).
  GIVEN WITH THE SEED: the statements are not yours to turn. If you find one false, say at which input.
  Laid BY PROGRAM, IN A SANDBOX (cutbox-rows.mjs): the forced cells as the released guide's own fill.sh prints them over the translation 1a65900f4175d160… (all of the seat's roots in one cut). By AI agents, Wed Nov 11 2026. No macro, syntax, notation, axiom, sorry.
-/
import Derived.Test.YtccjmgcafifmkaaChecked
import GoSem.Claim
import GoSem.ClaimJoined
import GoSem.ClaimMapViews
import Derived.JoinedTies
import Derived.KernelRfl
namespace Go.Proofs.Ytccjmgcafifmkaa
/- THE CELL 'sum', in the pinned program and in every row, IS THE sha256 OF THE DUMP (.gsa) THAT YtccjmgcafifmkaaProg.lean LOADS. Nothing in Lean hashes anything: it is a label: what it is worth is what the hold of that sum in a sandbox is worth. -/
noncomputable def Try.pinned : Pinned := { name := "ytccjmgcafifmkaa", sum := "1a65900f4175d1608131942773e6f9f9ceeab32ed5f13e9224b4178eadb339dd", checked := Try.checked }
namespace Rows
def none {H : Type} : Left H := { results := [], args := [] }

/-- 'wherrylaw.Names': WHATEVER THE INPUT: true; the input reads as it did. -/
def namesSpec : ChangeSpec := { name := "names", fn := fun _ => fun
  | [] => { results := [.lit (.bool true)], args := [] }
  | _ => none }
def namesRow : OpenClaim := { program := "ytccjmgcafifmkaa", sum := "1a65900f4175d1608131942773e6f9f9ceeab32ed5f13e9224b4178eadb339dd", func := "wherry/wherrylaw.Names", spec := "names", apart := false }
def NamesSaid : Prop := namesRow.holds Try.pinned (OpenSpec.ofChange namesSpec)

/-- ITS FALSE NEIGHBOUR: 'it returns false'. Refute it at one input. -/
def namesWrong : ChangeSpec := { name := "names", fn := fun _ => fun
  | [] => { results := [.lit (.bool false)], args := [] }
  | _ => none }
def NamesWrongFalsely : Prop := namesRow.holds Try.pinned (OpenSpec.ofChange namesWrong)

/-- 'wherrylaw.LinkOpens': WHATEVER THE INPUT: true; the input reads as it did. -/
def linkOpensSpec : ChangeSpec := { name := "linkOpens", fn := fun _ => fun
  | [d] => { results := [.lit (.bool true)], args := [d] }
  | _ => none }
def linkOpensRow : OpenClaim := { program := "ytccjmgcafifmkaa", sum := "1a65900f4175d1608131942773e6f9f9ceeab32ed5f13e9224b4178eadb339dd", func := "wherry/wherrylaw.LinkOpens", spec := "linkOpens", apart := false }
def LinkOpensSaid : Prop := linkOpensRow.holds Try.pinned (OpenSpec.ofChange linkOpensSpec)

/-- ITS FALSE NEIGHBOUR: 'it returns false'. Refute it at one input. -/
def linkOpensWrong : ChangeSpec := { name := "linkOpens", fn := fun _ => fun
  | [d] => { results := [.lit (.bool false)], args := [d] }
  | _ => none }
def LinkOpensWrongFalsely : Prop := linkOpensRow.holds Try.pinned (OpenSpec.ofChange linkOpensWrong)

/-- 'wherrylaw.NodeTrees': WHATEVER THE INPUT: true; the input reads as it did. -/
def nodeTreesSpec : ChangeSpec := { name := "nodeTrees", fn := fun _ => fun
  | [d] => { results := [.lit (.bool true)], args := [d] }
  | _ => none }
def nodeTreesRow : OpenClaim := { program := "ytccjmgcafifmkaa", sum := "1a65900f4175d1608131942773e6f9f9ceeab32ed5f13e9224b4178eadb339dd", func := "wherry/wherrylaw.NodeTrees", spec := "nodeTrees", apart := false }
def NodeTreesSaid : Prop := nodeTreesRow.holds Try.pinned (OpenSpec.ofChange nodeTreesSpec)

/-- ITS FALSE NEIGHBOUR: 'it returns false'. Refute it at one input. -/
def nodeTreesWrong : ChangeSpec := { name := "nodeTrees", fn := fun _ => fun
  | [d] => { results := [.lit (.bool false)], args := [d] }
  | _ => none }
def NodeTreesWrongFalsely : Prop := nodeTreesRow.holds Try.pinned (OpenSpec.ofChange nodeTreesWrong)

/-- 'wherrylaw.TextLengths': WHATEVER THE INPUT: true; the input reads as it did. -/
def textLengthsSpec : ChangeSpec := { name := "textLengths", fn := fun _ => fun
  | [d] => { results := [.lit (.bool true)], args := [d] }
  | _ => none }
def textLengthsRow : OpenClaim := { program := "ytccjmgcafifmkaa", sum := "1a65900f4175d1608131942773e6f9f9ceeab32ed5f13e9224b4178eadb339dd", func := "wherry/wherrylaw.TextLengths", spec := "textLengths", apart := false }
def TextLengthsSaid : Prop := textLengthsRow.holds Try.pinned (OpenSpec.ofChange textLengthsSpec)

/-- ITS FALSE NEIGHBOUR: 'it returns false'. Refute it at one input. -/
def textLengthsWrong : ChangeSpec := { name := "textLengths", fn := fun _ => fun
  | [d] => { results := [.lit (.bool false)], args := [d] }
  | _ => none }
def TextLengthsWrongFalsely : Prop := textLengthsRow.holds Try.pinned (OpenSpec.ofChange textLengthsWrong)

/-- 'wherrylaw.TapeSyncs': WHATEVER THE INPUT: true; the input reads as it did. -/
def tapeSyncsSpec : ChangeSpec := { name := "tapeSyncs", fn := fun _ => fun
  | [d] => { results := [.lit (.bool true)], args := [d] }
  | _ => none }
def tapeSyncsRow : OpenClaim := { program := "ytccjmgcafifmkaa", sum := "1a65900f4175d1608131942773e6f9f9ceeab32ed5f13e9224b4178eadb339dd", func := "wherry/wherrylaw.TapeSyncs", spec := "tapeSyncs", apart := false }
def TapeSyncsSaid : Prop := tapeSyncsRow.holds Try.pinned (OpenSpec.ofChange tapeSyncsSpec)

/-- ITS FALSE NEIGHBOUR: 'it returns false'. Refute it at one input. -/
def tapeSyncsWrong : ChangeSpec := { name := "tapeSyncs", fn := fun _ => fun
  | [d] => { results := [.lit (.bool false)], args := [d] }
  | _ => none }
def TapeSyncsWrongFalsely : Prop := tapeSyncsRow.holds Try.pinned (OpenSpec.ofChange tapeSyncsWrong)

/-- 'wherrylaw.TapeCrashes': WHATEVER THE INPUT: true; the input reads as it did. -/
def tapeCrashesSpec : ChangeSpec := { name := "tapeCrashes", fn := fun _ => fun
  | [d1, d2] => { results := [.lit (.bool true)], args := [d1, d2] }
  | _ => none }
def tapeCrashesRow : OpenClaim := { program := "ytccjmgcafifmkaa", sum := "1a65900f4175d1608131942773e6f9f9ceeab32ed5f13e9224b4178eadb339dd", func := "wherry/wherrylaw.TapeCrashes", spec := "tapeCrashes", apart := false }
def TapeCrashesSaid : Prop := tapeCrashesRow.holds Try.pinned (OpenSpec.ofChange tapeCrashesSpec)

/-- ITS FALSE NEIGHBOUR: 'it returns false'. Refute it at one input. -/
def tapeCrashesWrong : ChangeSpec := { name := "tapeCrashes", fn := fun _ => fun
  | [d1, d2] => { results := [.lit (.bool false)], args := [d1, d2] }
  | _ => none }
def TapeCrashesWrongFalsely : Prop := tapeCrashesRow.holds Try.pinned (OpenSpec.ofChange tapeCrashesWrong)

/- THE SECOND FORM. 'bulk': how many values and letters a reading holds, each counted each time it is reached (what is shared counts as often as it is met; a slice's spare places count too). A statement '..UptoSaid' is the law's where the arguments, and the package variables that the reading takes, are together of bulk at most 1048576: NARROWER than '..Said'. Prove '..Said' where nothing that the law and all that it calls make is longer than what came in: it says more and counts as full. Else prove '..UptoSaid'. A law counts once. -/
mutual
def uptoBulk {H : Type} : DataW H → Nat
  | .lit (.string bytes) => bytes.length + 1
  | .lit _ => 1
  | .nil => 1
  | .ptr d => uptoBulk d + 1
  | .slice elems spare => uptoBulkAll elems + uptoBulkAll spare + 1
  | .agg parts => uptoBulkAll parts + 1
  | .iface _ d => uptoBulk d + 1
  | .map entries => uptoBulkEntries entries + 1
  | .held _ => 1
def uptoBulkAll {H : Type} : List (DataW H) → Nat
  | [] => 0
  | d :: r => uptoBulk d + uptoBulkAll r
def uptoBulkEntries {H : Type} : List (Lit × DataW H) → Nat
  | [] => 0
  | x :: r => uptoBulkEntry x + uptoBulkEntries r
def uptoBulkEntry {H : Type} : Lit × DataW H → Nat
  | (.string bytes, d) => bytes.length + uptoBulk d + 1
  | (_, d) => uptoBulk d + 1
 end
def uptoSmall : (H : Type) → List (DataW H) → Bool := fun _ ds => decide (uptoBulkAll ds ≤ 1048576)
def OpenSpec.upto (s : _root_.Go.ChangeSpec) : _root_.Go.OpenSpec := { _root_.Go.OpenSpec.ofChange s with cond := some uptoSmall }

/-- 'wherrylaw.Names', WHERE WHAT IT READS IS OF BULK AT MOST 1048576: true; the input reads as it did. -/
def namesUptoRow : OpenClaim := { program := "ytccjmgcafifmkaa", sum := "1a65900f4175d1608131942773e6f9f9ceeab32ed5f13e9224b4178eadb339dd", func := "wherry/wherrylaw.Names", spec := "names", apart := false, narrowed := true }
def NamesUptoSaid : Prop := namesUptoRow.holds Try.pinned (OpenSpec.upto namesSpec)

/-- 'wherrylaw.LinkOpens', WHERE WHAT IT READS IS OF BULK AT MOST 1048576: true; the input reads as it did. -/
def linkOpensUptoRow : OpenClaim := { program := "ytccjmgcafifmkaa", sum := "1a65900f4175d1608131942773e6f9f9ceeab32ed5f13e9224b4178eadb339dd", func := "wherry/wherrylaw.LinkOpens", spec := "linkOpens", apart := false, narrowed := true }
def LinkOpensUptoSaid : Prop := linkOpensUptoRow.holds Try.pinned (OpenSpec.upto linkOpensSpec)

/-- 'wherrylaw.NodeTrees', WHERE WHAT IT READS IS OF BULK AT MOST 1048576: true; the input reads as it did. -/
def nodeTreesUptoRow : OpenClaim := { program := "ytccjmgcafifmkaa", sum := "1a65900f4175d1608131942773e6f9f9ceeab32ed5f13e9224b4178eadb339dd", func := "wherry/wherrylaw.NodeTrees", spec := "nodeTrees", apart := false, narrowed := true }
def NodeTreesUptoSaid : Prop := nodeTreesUptoRow.holds Try.pinned (OpenSpec.upto nodeTreesSpec)

/-- 'wherrylaw.TextLengths', WHERE WHAT IT READS IS OF BULK AT MOST 1048576: true; the input reads as it did. -/
def textLengthsUptoRow : OpenClaim := { program := "ytccjmgcafifmkaa", sum := "1a65900f4175d1608131942773e6f9f9ceeab32ed5f13e9224b4178eadb339dd", func := "wherry/wherrylaw.TextLengths", spec := "textLengths", apart := false, narrowed := true }
def TextLengthsUptoSaid : Prop := textLengthsUptoRow.holds Try.pinned (OpenSpec.upto textLengthsSpec)

/-- 'wherrylaw.TapeSyncs', WHERE WHAT IT READS IS OF BULK AT MOST 1048576: true; the input reads as it did. -/
def tapeSyncsUptoRow : OpenClaim := { program := "ytccjmgcafifmkaa", sum := "1a65900f4175d1608131942773e6f9f9ceeab32ed5f13e9224b4178eadb339dd", func := "wherry/wherrylaw.TapeSyncs", spec := "tapeSyncs", apart := false, narrowed := true }
def TapeSyncsUptoSaid : Prop := tapeSyncsUptoRow.holds Try.pinned (OpenSpec.upto tapeSyncsSpec)

/-- 'wherrylaw.TapeCrashes', WHERE WHAT IT READS IS OF BULK AT MOST 1048576: true; the input reads as it did. -/
def tapeCrashesUptoRow : OpenClaim := { program := "ytccjmgcafifmkaa", sum := "1a65900f4175d1608131942773e6f9f9ceeab32ed5f13e9224b4178eadb339dd", func := "wherry/wherrylaw.TapeCrashes", spec := "tapeCrashes", apart := false, narrowed := true }
def TapeCrashesUptoSaid : Prop := tapeCrashesUptoRow.holds Try.pinned (OpenSpec.upto tapeCrashesSpec)

end Rows
end Go.Proofs.Ytccjmgcafifmkaa
