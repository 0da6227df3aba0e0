/- A part of the proof of NodeUndoes. -/
import Derived.Test.YtacacoklddogmaaGreatDoorKBC
namespace Go.Proofs.YtacacoklddogmaaGreatDoor
set_option maxHeartbeats 4000000
open Go.ChangeShapes Go.WideShapes Go.ChangeAt Go.RowKit
set_option maxRecDepth 100000
structure SideV where
 p : Int
 j : Bool
 s : Int
 h : Int
 A : Option Addr
 c : Nat
 L : List OpV
 k : LinkV
instance : Inhabited SideV := ⟨⟨0, false, 0, 0, none, 0, [], ⟨0, 0, none, 0, [], none, 0, [], 0⟩⟩⟩
def SideV.cells (x : SideV) : List Value := [.int .i64 x.p, .bool x.j, .int .i64 x.s, .int .i64 x.h, .slice x.A x.L.length x.c, .int .i64 x.k.e, .int .i64 x.k.n, .slice x.k.sA x.k.s.length x.k.sc, .slice x.k.qA x.k.q.length x.k.qc, .int .i64 x.k.h]
theorem SideV.cells_len (x : SideV) : x.cells.length = 10 := rfl
structure SideV.In (w : World) (x : SideV) : Prop where
 ops : OpsIn w x.A x.L
 link : x.k.In w
structure SideV.Small (x : SideV) : Prop where
 len : x.L.length ≤ 1048576
 ops : ∀ o ∈ x.L, o.Small
 link : x.k.Small
theorem LinkV.In.later {w w' : World} {l : LinkV} (h : l.In w) (hb : Below w.heap.size w w') : l.In w' := ⟨h.s.later hb, h.q.later hb⟩
theorem SideV.In.later {w w' : World} {x : SideV} (h : x.In w) (hb : Below w.heap.size w w') : x.In w' := ⟨h.ops.later hb, h.link.later hb⟩
structure SidesIn (w : World) (A : Option Addr) (L : List SideV) : Prop where
 row : Sl (· < w.heap.size) w 10 A L.length (L.flatMap SideV.cells)
 each : ∀ x ∈ L, x.In w
theorem SidesIn.later {w w' : World} {A : Option Addr} {L : List SideV} (h : SidesIn w A L) (hb : Below w.heap.size w w') : SidesIn w' A L := ⟨h.row.later hb, fun x hx => (h.each x hx).later hb⟩
def markCells (m : Int × Int) : List Value := [.int .i64 m.1, .int .i64 m.2]
theorem bb_ (m : Int × Int) : (markCells m).length = 2 := rfl
abbrev MarksIn (w : World) (A : Option Addr) (M : List (Int × Int)) : Prop := Sl (· < w.heap.size) w 2 A M.length (M.flatMap markCells)
structure NodeV where
 me : Int
 ep : Int
 up : Int
 rd : Bool
 t : ByteArray
 sA : Option Addr
 sc : Nat
 S : List SideV
 uA : Option Addr
 uc : Nat
 U : List OpV
 mA : Option Addr
 mc : Nat
 M : List (Int × Int)
abbrev NodeV.val (n : NodeV) : Value := .agg #[.int .i64 n.me, .int .i64 n.ep, .int .i64 n.up, .bool n.rd, .string n.t, .slice n.sA n.S.length n.sc, .slice n.uA n.U.length n.uc, .slice n.mA n.M.length n.mc]
structure NodeV.In (w : World) (n : NodeV) : Prop where
 sides : SidesIn w n.sA n.S
 undo : OpsIn w n.uA n.U
 marks : MarksIn w n.mA n.M
theorem NodeV.In.later {w w' : World} {n : NodeV} (h : n.In w) (hb : Below w.heap.size w w') : n.In w' := ⟨h.sides.later hb, h.undo.later hb, Sl.later h.marks hb⟩
structure NodeV.Small (n : NodeV) : Prop where
 text : n.t.size ≤ 1048576
 sl : n.S.length ≤ 1048576
 sides : ∀ x ∈ n.S, x.Small
 ul : n.U.length ≤ 1048576
 undo : ∀ o ∈ n.U, o.Small
 ml : n.M.length ≤ 1048576

def undoOk (at_ : Int) : List (List PartD) → Prop
 | [] => True
 | o :: os => (opFault o = 0 ∧ (lens o).1 = at_) ∧ undoOk (lens o).2 os
def lastFits (r : Int) (L : List OpV) : Prop := ∀ o, L.getLast? = some o → (lens o.ps).2 = r
def sideMay (rd : Bool) (r : Int) (x : SideV) : Prop := (edgeMay x.s x.h x.L ∧ linkMay x.k) ∧ if x.j = false then x.s = 0 ∧ x.h = 0 else lastFits r x.L ∧ rd = true ∧ x.k.e ≠ 0
def nodeNums (zs : List Int) (n : NodeV) : Prop := (0 ≤ n.me ∧ n.me < zs.length) ∧ (1 ≤ n.ep ∧ n.ep < 1048576) ∧ (0 ≤ n.up ∧ n.up ≤ 1048576) ∧ ¬ (n.me = 0 ∧ 0 < n.up) ∧ textFault n.t = 0
def nodeLens (zs : List Int) (n : NodeV) : Prop := (peers zs n.me).length = n.S.length ∧ n.U.length ≤ 12 ∧ n.M.length ≤ 1 ∧ (n.rd = false → n.me ≠ 0 ∧ n.t.size = 0 ∧ n.U.length = 0 ∧ n.M.length = 0)
def runesI (s : ByteArray) : Int := (Lib.runeCount s : Int)
def sidesOk (zs : List Int) (n : NodeV) : Prop := ∀ i (h : i < n.S.length), n.S[i].p = (peers zs n.me).getD i 0 ∧ sideMay n.rd (runesI n.t) n.S[i]
def parentOk (n : NodeV) : Prop := 0 < n.me → ∀ x, n.S.head? = some x → x.j = n.rd
def markOk (r : Int) (m : Int × Int) : Prop := (0 ≤ m.1 ∧ m.1 ≤ r) ∧ (0 ≤ m.2 ∧ m.2 ≤ r)
def nodeMay (zs : List Int) (n : NodeV) : Prop := nodeNums zs n ∧ nodeLens zs n ∧ undoOk (runesI n.t) (n.U.map OpV.ps).reverse ∧ sidesOk zs n ∧ parentOk n ∧ ∀ m ∈ n.M, markOk (runesI n.t) m
open Classical in
noncomputable def nodeFault (zs : List Int) (n : NodeV) : Int := if treeFault zs ≠ 0 then treeFault zs else if nodeMay zs n then 0 else 9
theorem dg_ {zs : List Int} {n : NodeV} (h : treeFault zs ≠ 0) : nodeFault zs n = treeFault zs := if_pos h
theorem br_ {zs : List Int} {n : NodeV} (h : treeFault zs = 0) (hn : ¬ nodeMay zs n) : nodeFault zs n = 9 := by
 unfold nodeFault
 rw [if_neg (by simpa using h), if_neg hn]
theorem eh_ {zs : List Int} {n : NodeV} (h : treeFault zs = 0) (hn : nodeMay zs n) : nodeFault zs n = 0 := by
 unfold nodeFault
 rw [if_neg (by simpa using h), if_pos hn]
end Go.Proofs.YtacacoklddogmaaGreatDoor
namespace Go.Proofs.YtacacoklddogmaaGreatDoor
set_option maxHeartbeats 4000000
open Go.ChangeShapes Go.WideShapes Go.ChangeAt Go.RowKit Go.Joins Go.Deep
set_option maxRecDepth 100000
section
variable {H : Type} {enc : TypeId × Value → H} {w : World} {m : Nat}
structure FrameV.Fit (f : FrameV) : Prop where
 op : f.o.Fit
 text : f.s.size ≤ 1048576
theorem FrameV.Fit.small {f : FrameV} (h : f.Fit) : f.Small := ⟨h.op.small, h.text⟩
theorem ji_ {v : Value} {y : DataW H × List MemPlace} (h : DataW.trod enc Tryz.prog w 0 (fun _ => true) true m 56 [v] = some y) (hb : Rows.uptoBulk y.1 ≤ 1048576) :
 ∃ (A : Option Addr) (c : Nat) (L : List FrameV), v = .slice A L.length c ∧ L.length ≤ c ∧ c ≤ 9223372036854775807 ∧ FramesIn w A L ∧ L.length ≤ 1048576 ∧ ∀ f ∈ L, f.Fit := by
 obtain ⟨A, c, L, hv, h1, h2, hrow, hl, hq⟩ := hz_ FrameV.cells 5 FrameV.cells_len (by decide) (fun f => OpIn (· < w.heap.size) w f.o.A f.o.ps ∧ f.Fit) Tryz.underlying56 (by kernel_rfl) (fun m cs y h hb => by
  obtain ⟨k, hd, ep, A, c, ps, s, rfl, _, _, _, ⟨g1, g2, g3, g4, g5⟩, g6⟩ := ub_ h hb
  exact ⟨⟨k, hd, ep, ⟨A, c, ps⟩, s⟩, rfl, g3, ⟨⟨g4, g5, g1, g2⟩, g6⟩⟩) h hb
 exact ⟨A, c, L, hv, h1, h2, ⟨hrow, fun f hf => (hq f hf).1⟩, Nat.le_trans hl hb, fun f hf => (hq f hf).2⟩
structure LinkV.Fit (l : LinkV) : Prop where
 sl : l.s.length ≤ 1048576
 ql : l.q.length ≤ 1048576
 s : ∀ f ∈ l.s, f.Fit
 q : ∀ f ∈ l.q, f.Fit
 sc : l.s.length ≤ l.sc ∧ l.sc ≤ 9223372036854775807
 qc : l.q.length ≤ l.qc ∧ l.qc ≤ 9223372036854775807
theorem LinkV.Fit.small {l : LinkV} (h : l.Fit) : l.Small := ⟨h.sl, h.ql, fun f hf => (h.s f hf).small, fun f hf => (h.q f hf).small⟩
theorem wj_ {cs : List Value} {y : DataW H × List MemPlace} (h : DataW.trod enc Tryz.prog w 0 (fun _ => true) true m 58 cs = some y) (hb : Rows.uptoBulk y.1 ≤ 1048576) :
 ∃ l : LinkV, cs = [.int .i64 l.e, .int .i64 l.n, .slice l.sA l.s.length l.sc, .slice l.qA l.q.length l.qc, .int .i64 l.h] ∧ l.In w ∧ l.Fit := by
 obtain ⟨ys, n, hx, _, hl, hf⟩ := dn_ Tryz.underlying58 (by kernel_rfl) (by kernel_rfl) h
 obtain ⟨v0, v1, v2, v3, v4, rfl⟩ := list5 hl
 obtain ⟨_, y0, hc0, hy0, ht0⟩ := hf 0 _ rfl
 obtain ⟨_, y1, hc1, hy1, ht1⟩ := hf 1 _ rfl
 obtain ⟨_, y2, hc2, hy2, ht2⟩ := hf 2 _ rfl
 obtain ⟨_, y3, hc3, hy3, ht3⟩ := hf 3 _ rfl
 obtain ⟨_, y4, hc4, hy4, ht4⟩ := hf 4 _ rfl
 obtain rfl := Option.some.inj hc0
 obtain rfl := Option.some.inj hc1
 obtain rfl := Option.some.inj hc2
 obtain rfl := Option.some.inj hc3
 obtain rfl := Option.some.inj hc4
 obtain ⟨e, rfl, _⟩ := by_ Tryz.underlying3 ht0
 obtain ⟨n, rfl, _⟩ := by_ Tryz.underlying3 ht1
 obtain ⟨sA, sc, s, rfl, s1, s2, s3, s4, s5⟩ := ji_ ht2 (bk_ hx hb hy2)
 obtain ⟨qA, qc, q, rfl, q1, q2, q3, q4, q5⟩ := ji_ ht3 (bk_ hx hb hy3)
 obtain ⟨hd, rfl, _⟩ := by_ Tryz.underlying3 ht4
 exact ⟨⟨e, n, sA, sc, s, qA, qc, q, hd⟩, rfl, ⟨s3, q3⟩, ⟨s4, q4, s5, q5, ⟨s1, s2⟩, ⟨q1, q2⟩⟩⟩
end
theorem list4N {α : Type} {l : List α} (h : l.length = 4) : ∃ a b c d, l = [a, b, c, d] := by
 match l, h with
 | [a, b, c, d], _ => exact ⟨a, b, c, d, rfl⟩
theorem list8N {α : Type} {l : List α} (h : l.length = 8) : ∃ a b c d e f g i, l = [a, b, c, d, e, f, g, i] := by
 match l, h with
 | [a, b, c, d, e, f, g, i], _ => exact ⟨a, b, c, d, e, f, g, i, rfl⟩
theorem list10N {α : Type} {l : List α} (h : l.length = 10) : ∃ a b c d e f g i j k, l = [a, b, c, d, e, f, g, i, j, k] := by
 match l, h with
 | [a, b, c, d, e, f, g, i, j, k], _ => exact ⟨a, b, c, d, e, f, g, i, j, k, rfl⟩
structure SideV.Fit (x : SideV) : Prop where
 len : x.L.length ≤ 1048576
 ops : ∀ o ∈ x.L, o.Fit
 link : x.k.Fit
 cap : x.L.length ≤ x.c ∧ x.c ≤ 9223372036854775807
theorem SideV.Fit.small {x : SideV} (h : x.Fit) : x.Small := ⟨h.len, fun o ho => (h.ops o ho).small, h.link.small⟩
structure NodeV.Fit (n : NodeV) : Prop where
 text : n.t.size ≤ 1048576
 sl : n.S.length ≤ 1048576
 sides : ∀ x ∈ n.S, x.Fit
 ul : n.U.length ≤ 1048576
 undo : ∀ o ∈ n.U, o.Fit
 ml : n.M.length ≤ 1048576
 sc : n.S.length ≤ n.sc ∧ n.sc ≤ 9223372036854775807
 uc : n.U.length ≤ n.uc ∧ n.uc ≤ 9223372036854775807
 mc : n.M.length ≤ n.mc ∧ n.mc ≤ 9223372036854775807
theorem NodeV.Fit.small {n : NodeV} (h : n.Fit) : n.Small := ⟨h.text, h.sl, fun x hx => (h.sides x hx).small, h.ul, fun o ho => (h.undo o ho).small, h.ml⟩
section
variable {H : Type} {enc : TypeId × Value → H} {w : World} {m : Nat}
theorem wk_ {cs : List Value} {y : DataW H × List MemPlace} (h : DataW.trod enc Tryz.prog w 0 (fun _ => true) true m 53 cs = some y) : ∃ q : Int × Int, cs = markCells q := by
 obtain ⟨zs, n2, _, _, hl2, hf2⟩ := dn_ Tryz.underlying53 (by kernel_rfl) (by kernel_rfl) h
 obtain ⟨z0, z1, rfl⟩ := list2 hl2
 obtain ⟨_, y0, hc0, hz0, ht0⟩ := hf2 0 _ rfl
 obtain ⟨_, y1, hc1, hz1, ht1⟩ := hf2 1 _ rfl
 obtain rfl := Option.some.inj hc0
 obtain rfl := Option.some.inj hc1
 obtain ⟨an, rfl, _⟩ := by_ Tryz.underlying3 ht0
 obtain ⟨hd, rfl, _⟩ := by_ Tryz.underlying3 ht1
 exact ⟨(an, hd), rfl⟩
theorem wm_ {cs : List Value} {y : DataW H × List MemPlace} (h : DataW.trod enc Tryz.prog w 0 (fun _ => true) true m 60 cs = some y) (hb : Rows.uptoBulk y.1 ≤ 1048576) :
 ∃ x : SideV, cs = x.cells ∧ x.In w ∧ x.Fit := by
 obtain ⟨ys, n, _, hy, hlen, hyl, hf⟩ := DataW.trod_struct Tryz.underlying60 h
 rw [show Tryz.prog.cellsOf 60 = 10 by kernel_rfl] at hlen
 obtain ⟨c0, c1, c2, c3, c4, c5, c6, c7, c8, c9, rfl⟩ := list10N hlen
 obtain ⟨y0, y1, y2, y3, rfl⟩ := list4N hyl
 have h0 : DataW.trod enc Tryz.prog w 0 (fun _ => true) true n 3 ((List.drop 0 [c0, c1, c2, c3, c4, c5, c6, c7, c8, c9]).take (Tryz.prog.cellsOf 3)) = some y0 := hf 0 _ rfl
 have h1 : DataW.trod enc Tryz.prog w 0 (fun _ => true) true n 4 ((List.drop 1 [c0, c1, c2, c3, c4, c5, c6, c7, c8, c9]).take (Tryz.prog.cellsOf 4)) = some y1 := hf 1 _ rfl
 have h2 : DataW.trod enc Tryz.prog w 0 (fun _ => true) true n 55 ((List.drop 2 [c0, c1, c2, c3, c4, c5, c6, c7, c8, c9]).take (Tryz.prog.cellsOf 55)) = some y2 := hf 2 _ rfl
 have h3 : DataW.trod enc Tryz.prog w 0 (fun _ => true) true n 58 ((List.drop 5 [c0, c1, c2, c3, c4, c5, c6, c7, c8, c9]).take (Tryz.prog.cellsOf 58)) = some y3 := hf 3 _ rfl
 rw [show Tryz.prog.cellsOf 3 = 1 by kernel_rfl] at h0
 rw [show Tryz.prog.cellsOf 4 = 1 by kernel_rfl] at h1
 rw [show Tryz.prog.cellsOf 55 = 3 by kernel_rfl] at h2
 rw [show Tryz.prog.cellsOf 58 = 5 by kernel_rfl] at h3
 have h0' : DataW.trod enc Tryz.prog w 0 (fun _ => true) true n 3 [c0] = some y0 := h0
 have h1' : DataW.trod enc Tryz.prog w 0 (fun _ => true) true n 4 [c1] = some y1 := h1
 have h2' : DataW.trod enc Tryz.prog w 0 (fun _ => true) true n 55 [c2, c3, c4] = some y2 := h2
 have h3' : DataW.trod enc Tryz.prog w 0 (fun _ => true) true n 58 [c5, c6, c7, c8, c9] = some y3 := h3
 have hb2 : Rows.uptoBulk y2.1 ≤ 1048576 := by
  rw [hy] at hb
  exact bk_ (ys := [y0, y1, y2, y3]) rfl hb (j := 2) rfl
 have hb3 : Rows.uptoBulk y3.1 ≤ 1048576 := by
  rw [hy] at hb
  exact bk_ (ys := [y0, y1, y2, y3]) rfl hb (j := 3) rfl
 obtain ⟨p, rfl, _⟩ := by_ Tryz.underlying3 h0'
 obtain ⟨j, e1, _⟩ := DataW.trod_bool Tryz.underlying4 h1'
 have e1' : c1 = .bool j := by simpa using e1
 subst e1'
 obtain ⟨s, hd, A, c, L, hcs, _, _, g1, g2, g3, g4, g5⟩ := np_ h2' hb2
 obtain ⟨k, hcs2, g6, g7⟩ := wj_ h3' hb3
 refine ⟨⟨p, j, s, hd, A, c, L, k⟩, ?_, ⟨g3, g6⟩, ⟨g4, g5, g7, g1, g2⟩⟩
 have e : [Value.int .i64 p, .bool j] ++ [c2, c3, c4] ++ [c5, c6, c7, c8, c9] = [Value.int .i64 p, .bool j] ++ [.int .i64 s, .int .i64 hd, .slice A L.length c] ++ [.int .i64 k.e, .int .i64 k.n, .slice k.sA k.s.length k.sc, .slice k.qA k.q.length k.qc, .int .i64 k.h] := by rw [hcs, hcs2]
 exact e
theorem wl_ {cs : List Value} {y : DataW H × List MemPlace} (h : DataW.trod enc Tryz.prog w 0 (fun _ => true) true m 28 cs = some y) (hb : Rows.uptoBulk y.1 ≤ 1048576) :
 ∃ n : NodeV, cs = [.int .i64 n.me, .int .i64 n.ep, .int .i64 n.up, .bool n.rd, .string n.t, .slice n.sA n.S.length n.sc, .slice n.uA n.U.length n.uc, .slice n.mA n.M.length n.mc] ∧ n.In w ∧ n.Fit := by
 obtain ⟨ys, n, hx, _, hl, hf⟩ := dn_ Tryz.underlying28 (by kernel_rfl) (by kernel_rfl) h
 obtain ⟨v0, v1, v2, v3, v4, v5, v6, v7, rfl⟩ := list8N hl
 obtain ⟨_, y0, hc0, hy0, ht0⟩ := hf 0 _ rfl
 obtain ⟨_, y1, hc1, hy1, ht1⟩ := hf 1 _ rfl
 obtain ⟨_, y2, hc2, hy2, ht2⟩ := hf 2 _ rfl
 obtain ⟨_, y3, hc3, hy3, ht3⟩ := hf 3 _ rfl
 obtain ⟨_, y4, hc4, hy4, ht4⟩ := hf 4 _ rfl
 obtain ⟨_, y5, hc5, hy5, ht5⟩ := hf 5 _ rfl
 obtain ⟨_, y6, hc6, hy6, ht6⟩ := hf 6 _ rfl
 obtain ⟨_, y7, hc7, hy7, ht7⟩ := hf 7 _ rfl
 obtain rfl := Option.some.inj hc0
 obtain rfl := Option.some.inj hc1
 obtain rfl := Option.some.inj hc2
 obtain rfl := Option.some.inj hc3
 obtain rfl := Option.some.inj hc4
 obtain rfl := Option.some.inj hc5
 obtain rfl := Option.some.inj hc6
 obtain rfl := Option.some.inj hc7
 obtain ⟨me, rfl, _⟩ := by_ Tryz.underlying3 ht0
 obtain ⟨ep, rfl, _⟩ := by_ Tryz.underlying3 ht1
 obtain ⟨up, rfl, _⟩ := by_ Tryz.underlying3 ht2
 obtain ⟨rd, e3, _⟩ := DataW.trod_bool Tryz.underlying4 ht3
 have e3' : v3 = .bool rd := by simpa using e3
 subst e3'
 obtain ⟨t, rfl, q4⟩ := nq_ Tryz.underlying9 ht4 (bk_ hx hb hy4)
 obtain ⟨sA, sc, S, rfl, s1, s2, s3, s4, s5⟩ := hz_ SideV.cells 10 SideV.cells_len (by decide) (fun x => x.In w ∧ x.Fit) Tryz.underlying24 (by kernel_rfl) (fun m cs y h hb => wm_ h hb) ht5 (bk_ hx hb hy5)
 obtain ⟨uA, uc, U, rfl, u1, u2, u3, u4, u5⟩ := qr_ Tryz.underlying25 ht6 (bk_ hx hb hy6)
 obtain ⟨mA, mc, M, rfl, m1, m2, m3, m4, _⟩ := hz_ markCells 2 bb_ (by decide) (fun _ => True) Tryz.underlying26 (by kernel_rfl) (fun m cs y h _ => by obtain ⟨q, hq⟩ := wk_ h; exact ⟨q, hq, trivial⟩) ht7 (bk_ hx hb hy7)
 exact ⟨⟨me, ep, up, rd, t, sA, sc, S, uA, uc, U, mA, mc, M⟩, rfl, ⟨⟨s3, fun x hx => (s5 x hx).1⟩, u3, m3⟩, ⟨q4, Nat.le_trans s4 (bk_ hx hb hy5), fun x hx => (s5 x hx).2, u4, u5, Nat.le_trans m4 (bk_ hx hb hy7), ⟨s1, s2⟩, ⟨u1, u2⟩, ⟨m1, m2⟩⟩⟩
end
end Go.Proofs.YtacacoklddogmaaGreatDoor
namespace Go.Proofs.YtacacoklddogmaaGreatDoor
set_option maxHeartbeats 4000000
open Go.ChangeShapes Go.WideShapes Go.ChangeAt Go.RowKit
set_option maxRecDepth 100000
theorem infoPart : (Tryz.prog.info? 73).map (fun i => (i.zero, i.size, i.bytes)) = some (some (.agg #[.int .i64 0, .int .i64 0, .string ⟨#[]⟩]), 3, 32) := by kernel_rfl
theorem yi_ : ∀ (ps : List PartD), ∀ u ∈ opCells ps, u.oneCell' = true := by
 intro ps u hu
 obtain ⟨p, _, h⟩ := List.mem_flatMap.1 hu
 simp only [PartD.cells, List.mem_cons, List.not_mem_nil, or_false] at h
 rcases h with rfl | rfl | rfl <;> rfl
def RetOp (w : World) (ps : List PartD) (e : Ending) (w' : World) : Prop :=
 ∃ A c, e = .returned (.slice A ps.length c) ∧ w'.ownsRow w.heap.size 73 3 (.slice A ps.length c) ps.length (opCells ps) ∧ Below w.heap.size w w'
theorem kp_ (w : World) (A A' : Option Addr) (c c' : Nat) (ps : List PartD) (hs : OpIn (· < w.heap.size) w A ps) (hs' : OpIn (· < w.heap.size) w A' ps) (hm : ps.length ≤ 1048576) :
 Calls Tryz.prog 67 #[.slice A ps.length c, .slice A' ps.length c'] w (R_ w (.bool true)) := by
 have HS := h_ hs
 have HS' := h_ hs'
 clear hs hs'
 go_enter Tryz.func67, Tryz.ntmps67
 go_wp2_with fail
 go_loopw [4, 5] (fun r i wr => ∃ (k : Nat), k ≤ ps.length ∧ i = .int .i64 k ∧ r = .bool false ∧ Below w.heap.size w wr) (fun _ i _ => ps.length - (intOf i).toNat)
 case atStart => exact ⟨0, Nat.zero_le _, rfl, rfl, Below.refl _ _⟩
 case round =>
  obtain ⟨k, hk, rfl, rfl, hbw⟩ := hrel
  by_cases hlt : k < ps.length
  · obtain ⟨b, o, rfl, hbs, h0, h1, h2⟩ := OpIn.at_ (ps := ps) (Sl.later HS.out hbw) hlt
    obtain ⟨b', o', rfl, hbs', g0, g1, g2⟩ := OpIn.at_ (ps := ps) (Sl.later HS'.out hbw) hlt
    generalize ps[k] = p at *
    obtain ⟨kd, pn, tx⟩ := p
    dsimp only at *
    go_wp2_with fail
    go_quiet (fail)
    go_wp2_with fail
    go_roundw
    case rel => exact ⟨k + 1, by omega, by go_num, rfl, bf_⟩
    case measure => simp [intOf]; omega
  · obtain rfl : k = ps.length := by omega
    go_wp2_with fail
    go_ret
    exact ⟨rfl, bf_⟩
theorem ol_ (rs : List PartD) (p : PartD) : opCells (rs ++ [p]) = opCells rs ++ p.cells := by simp [opCells]
theorem ds_ (w : World) (A : Option Addr) (c : Nat) (ps : List PartD) (hs : OpIn (· < w.heap.size) w A ps) (hm : ps.length ≤ 1048576) :
 Calls Tryz.prog 8 #[.slice A ps.length c] w (RetOp w ps) := by
 obtain ⟨i0, hi, hz0, hz1, hz2⟩ := info_parts infoPart
 go_enter Tryz.func8, Tryz.ntmps8
 go_wp2_with fail
 go_loopw [3, 4] (fun out i wr => ∃ (k : Nat) (Ao : Option Addr) (co : Nat), k ≤ ps.length ∧ i = .int .i64 k ∧ out = .slice Ao k co ∧ wr.ownsRow w.heap.size 73 3 (.slice Ao k co) k (opCells (ps.take k)) ∧ Below w.heap.size w wr)
  (fun _ i _ => ps.length - (intOf i).toNat)
 case atStart => exact ⟨0, none, 0, Nat.zero_le _, rfl, rfl, World.ownsRow_nil _ _ _ _, Below.refl _ _⟩
 case round =>
  obtain ⟨k, Ao, co, hk, rfl, rfl, hown, hbw⟩ := hrel
  by_cases hlt : k < ps.length
  · obtain ⟨b, o, rfl, hbs, h0, h1, h2⟩ := OpIn.at_ (ps := ps) (Sl.later hs hbw) hlt
    have HL := h_ (show opCells (ps.take (k + 1)) = opCells (ps.take k) ++ (ps[k]).cells by rw [List.take_succ_eq_append_getElem hlt, ol_])
    generalize ps[k] = p at *
    obtain ⟨kd, pn, tx⟩ := p
    dsimp only at *
    have HX := h_ (hown.alloc (.cells #[.int .i64 kd, .int .i64 pn, .string tx] 73))
    have HS := h_ (Sl.new (S := fun _ => True) wr [.int .i64 kd, .int .i64 pn, .string tx] 73 3 1 rfl trivial)
    go_wp2_with (at_builtin; refine j_ _ rfl _ _ 30 rfl w.heap.size 73 i0 (.agg #[.int .i64 0, .int .i64 0, .string ⟨#[]⟩]) 3 32 Tryz.underlying30 hi hz0 hz1 hz2 rfl (by decide) _ _ _ rfl HX.out _ _ _ _ _ rfl HS.out ?c1 ?c2 ?c3 ?c4 ?_)
    case c1 => simp [Value.oneCell']
    case c2 => unfold maxLen; omega
    case c3 => omega
    case c4 => have := hbw.size; simp; omega
    intro A' c' w1 hown' hgrow hat
    go_wp2_with fail
    go_roundw
    case rel => exact ⟨k + 1, A', c', by omega, by go_num, rfl, by rw [HL.out]; exact hown', (bAlloc hbw _).grown hgrow (by have := hbw.size; simp; omega) (fun g hg => (hown.lt g hg).1)⟩
    case measure => simp [intOf]; omega
  · obtain rfl : k = ps.length := by omega
    rw [List.take_length] at hown
    go_wp2_with fail
    go_ret
    exact ⟨Ao, co, rfl, hown, hbw⟩
end Go.Proofs.YtacacoklddogmaaGreatDoor
