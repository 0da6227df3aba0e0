/-
  What node.Check answers, in plain words (no walk): nodes, sides, neighbours.
-/
import Derived.Test.YtbmdepbmejnlkaaDoorRows
import Derived.Test.YtbmdepbmejnlkaaDoorPeers
import Derived.Test.YtbmdepbmejnlkaaDoorLinkC
namespace Go.Proofs.YtbmdepbmejnlkaaDoor
open Go.ChangeShapes Go.WideShapes Go.ChangeAt Go.RowKit
set_option maxRecDepth 100000
/-- A side as its ten cells hold it. -/
structure SideV where
  p : Int
  j : Bool
  s : Int
  h : Int
  A : Option Addr
  c : Nat
  L : List OpV
  k : LinkV
instance : Inhabited SideV := ⟨⟨0, false, 0, 0, none, 0, [], ⟨0, 0, none, 0, [], none, 0, [], 0⟩⟩⟩
def SideV.cells (x : SideV) : List Value := [.int .i64 x.p, .bool x.j, .int .i64 x.s, .int .i64 x.h, .slice x.A x.L.length x.c, .int .i64 x.k.e, .int .i64 x.k.n, .slice x.k.sA x.k.s.length x.k.sc, .slice x.k.qA x.k.q.length x.k.qc, .int .i64 x.k.h]
theorem SideV.cells_len (x : SideV) : x.cells.length = 10 := rfl
structure SideV.In (w : World) (x : SideV) : Prop where
  ops : OpsIn w x.A x.L
  link : x.k.In w
structure SideV.Small (x : SideV) : Prop where
  len : x.L.length ≤ 1048576
  ops : ∀ o ∈ x.L, o.Small
  link : x.k.Small
theorem LinkV.In.later {w w' : World} {l : LinkV} (h : l.In w) (hb : Below w.heap.size w w') : l.In w' := ⟨h.s.later hb, h.q.later hb⟩
theorem SideV.In.later {w w' : World} {x : SideV} (h : x.In w) (hb : Below w.heap.size w w') : x.In w' := ⟨h.ops.later hb, h.link.later hb⟩
/-- A row of sides, and what they hold. -/
structure SidesIn (w : World) (A : Option Addr) (L : List SideV) : Prop where
  row : Sl (· < w.heap.size) w 10 A L.length (L.flatMap SideV.cells)
  each : ∀ x ∈ L, x.In w
theorem SidesIn.later {w w' : World} {A : Option Addr} {L : List SideV} (h : SidesIn w A L) (hb : Below w.heap.size w w') : SidesIn w' A L := ⟨h.row.later hb, fun x hx => (h.each x hx).later hb⟩
def markCells (m : Int × Int) : List Value := [.int .i64 m.1, .int .i64 m.2]
theorem markCells_len (m : Int × Int) : (markCells m).length = 2 := rfl
abbrev MarksIn (w : World) (A : Option Addr) (M : List (Int × Int)) : Prop := Sl (· < w.heap.size) w 2 A M.length (M.flatMap markCells)
/-- A node as its cells hold it. -/
structure NodeV where
  me : Int
  ep : Int
  up : Int
  rd : Bool
  t : ByteArray
  sA : Option Addr
  sc : Nat
  S : List SideV
  uA : Option Addr
  uc : Nat
  U : List OpV
  mA : Option Addr
  mc : Nat
  M : List (Int × Int)
abbrev NodeV.val (n : NodeV) : Value := .agg #[.int .i64 n.me, .int .i64 n.ep, .int .i64 n.up, .bool n.rd, .string n.t, .slice n.sA n.S.length n.sc, .slice n.uA n.U.length n.uc, .slice n.mA n.M.length n.mc]
structure NodeV.In (w : World) (n : NodeV) : Prop where
  sides : SidesIn w n.sA n.S
  undo : OpsIn w n.uA n.U
  marks : MarksIn w n.mA n.M
theorem NodeV.In.later {w w' : World} {n : NodeV} (h : n.In w) (hb : Below w.heap.size w w') : n.In w' := ⟨h.sides.later hb, h.undo.later hb, Sl.later h.marks hb⟩
structure NodeV.Small (n : NodeV) : Prop where
  text : n.t.size ≤ 1048576
  sl : n.S.length ≤ 1048576
  sides : ∀ x ∈ n.S, x.Small
  ul : n.U.length ≤ 1048576
  undo : ∀ o ∈ n.U, o.Small
  ml : n.M.length ≤ 1048576

/-! ### what may be -/
/-- The undo list from its end: each operation fits what it is done to. -/
def undoOk (at_ : Int) : List (List PartD) → Prop
  | [] => True
  | o :: os => (opFault o = 0 ∧ (lens o).1 = at_) ∧ undoOk (lens o).2 os
def lastFits (r : Int) (L : List OpV) : Prop := ∀ o, L.getLast? = some o → (lens o.ps).2 = r
def sideMay (rd : Bool) (r : Int) (x : SideV) : Prop := (edgeMay x.s x.h x.L ∧ linkMay x.k) ∧ if x.j = false then x.s = 0 ∧ x.h = 0 else lastFits r x.L ∧ rd = true ∧ x.k.e ≠ 0
def nodeNums (zs : List Int) (n : NodeV) : Prop := (0 ≤ n.me ∧ n.me < zs.length) ∧ (1 ≤ n.ep ∧ n.ep < 1048576) ∧ (0 ≤ n.up ∧ n.up ≤ 1048576) ∧ ¬ (n.me = 0 ∧ 0 < n.up) ∧ textFault n.t = 0
def nodeLens (zs : List Int) (n : NodeV) : Prop := (peers zs n.me).length = n.S.length ∧ n.U.length ≤ 12 ∧ n.M.length ≤ 1 ∧ (n.rd = false → n.me ≠ 0 ∧ n.t.size = 0 ∧ n.U.length = 0 ∧ n.M.length = 0)
def runesI (s : ByteArray) : Int := (Lib.runeCount s : Int)
def sidesOk (zs : List Int) (n : NodeV) : Prop := ∀ i (h : i < n.S.length), n.S[i].p = (peers zs n.me).getD i 0 ∧ sideMay n.rd (runesI n.t) n.S[i]
def parentOk (n : NodeV) : Prop := 0 < n.me → ∀ x, n.S.head? = some x → x.j = n.rd
def markOk (r : Int) (m : Int × Int) : Prop := (0 ≤ m.1 ∧ m.1 ≤ r) ∧ (0 ≤ m.2 ∧ m.2 ≤ r)
def nodeMay (zs : List Int) (n : NodeV) : Prop := nodeNums zs n ∧ nodeLens zs n ∧ undoOk (runesI n.t) (n.U.map OpV.ps).reverse ∧ sidesOk zs n ∧ parentOk n ∧ ∀ m ∈ n.M, markOk (runesI n.t) m
open Classical in
/-- What Check answers, and NodeFault. -/
noncomputable def nodeFault (zs : List Int) (n : NodeV) : Int := if treeFault zs ≠ 0 then treeFault zs else if nodeMay zs n then 0 else 9
theorem nodeFault_tree {zs : List Int} {n : NodeV} (h : treeFault zs ≠ 0) : nodeFault zs n = treeFault zs := if_pos h
theorem nodeFault_no {zs : List Int} {n : NodeV} (h : treeFault zs = 0) (hn : ¬ nodeMay zs n) : nodeFault zs n = 9 := by
  unfold nodeFault
  rw [if_neg (by simpa using h), if_neg hn]
theorem nodeFault_ok {zs : List Int} {n : NodeV} (h : treeFault zs = 0) (hn : nodeMay zs n) : nodeFault zs n = 0 := by
  unfold nodeFault
  rw [if_neg (by simpa using h), if_pos hn]
end Go.Proofs.YtbmdepbmejnlkaaDoor
