/-
  The blocks of a node and of a side that were handed in.
-/
import Derived.Test.YtbmdepbmejnlkaaDoorRows
import Derived.Test.YtbmdepbmejnlkaaDoorNodeP
import Derived.Test.YtbmdepbmejnlkaaDoorSendP
import Derived.RangeFuncRecord
import Derived.Test.YtbmdepbmejnlkaaDoorHide
namespace Go.Proofs.YtbmdepbmejnlkaaDoor
open Go.ChangeShapes Go.WideShapes Go.ChangeAt Go.RowKit
set_option maxRecDepth 100000
abbrev SideV.val (x : SideV) : Value := .agg #[.int .i64 x.p, .bool x.j, .int .i64 x.s, .int .i64 x.h, .slice x.A x.L.length x.c, .int .i64 x.k.e, .int .i64 x.k.n, .slice x.k.sA x.k.s.length x.k.sc, .slice x.k.qA x.k.q.length x.k.qc, .int .i64 x.k.h]
abbrev NodeAt (W : World) (B : Nat) (n : NodeV) : Prop := W.heap[B]? = some (.cells #[.int .i64 n.me, .int .i64 n.ep, .int .i64 n.up, .bool n.rd, .string n.t, .slice n.sA n.S.length n.sc, .slice n.uA n.U.length n.uc, .slice n.mA n.M.length n.mc] 28 (0, 0))
abbrev SideAt (W : World) (B : Nat) (x : SideV) : Prop := W.heap[B]? = some (.cells #[.int .i64 x.p, .bool x.j, .int .i64 x.s, .int .i64 x.h, .slice x.A x.L.length x.c, .int .i64 x.k.e, .int .i64 x.k.n, .slice x.k.sA x.k.s.length x.k.sc, .slice x.k.qA x.k.q.length x.k.qc, .int .i64 x.k.h] 65 (0, 0))
structure TwoAt (w : World) (n : NodeV) (x : SideV) (W : World) : Prop where
  nd : NodeAt W w.heap.size n
  sd : SideAt W (w.heap.size + 1) x
  b : Below w.heap.size w W
theorem TwoAt.new (w : World) (n : NodeV) (x : SideV) : TwoAt w n x ((w.alloc (.cells #[.int .i64 n.me, .int .i64 n.ep, .int .i64 n.up, .bool n.rd, .string n.t, .slice n.sA n.S.length n.sc, .slice n.uA n.U.length n.uc, .slice n.mA n.M.length n.mc] 28)).alloc (.cells #[.int .i64 x.p, .bool x.j, .int .i64 x.s, .int .i64 x.h, .slice x.A x.L.length x.c, .int .i64 x.k.e, .int .i64 x.k.n, .slice x.k.sA x.k.s.length x.k.sc, .slice x.k.qA x.k.q.length x.k.qc, .int .i64 x.k.h] 65)) :=
  ⟨(heap_alloc_old _ _ _ (by simp)).trans (by show (w.heap.push _)[w.heap.size]? = _; simp), by have := World.alloc_heap_new (w.alloc (.cells #[.int .i64 n.me, .int .i64 n.ep, .int .i64 n.up, .bool n.rd, .string n.t, .slice n.sA n.S.length n.sc, .slice n.uA n.U.length n.uc, .slice n.mA n.M.length n.mc] 28)) (.cells #[.int .i64 x.p, .bool x.j, .int .i64 x.s, .int .i64 x.h, .slice x.A x.L.length x.c, .int .i64 x.k.e, .int .i64 x.k.n, .slice x.k.sA x.k.s.length x.k.sc, .slice x.k.qA x.k.q.length x.k.qc, .int .i64 x.k.h] 65); rwa [World.size_alloc] at this, bAlloc (bAlloc (Below.refl _ _) _) _⟩
theorem TwoAt.later {w W W' : World} {n : NodeV} {x : SideV} (k : TwoAt w n x W) (hb : Below W.heap.size W W') : TwoAt w n x W' :=
  ⟨(hb.block _ (Array.getElem?_eq_some_iff.1 k.nd).1).trans k.nd, (hb.block _ (Array.getElem?_eq_some_iff.1 k.sd).1).trans k.sd, bThen k.b hb⟩
theorem node_cell {W : World} {B : Nat} {n : NodeV} (h : NodeAt W B n) : W.cell? ⟨B, 0, none⟩ = some (.int .i64 n.me) ∧ W.cell? ⟨B, 1, none⟩ = some (.int .i64 n.ep) ∧ W.cell? ⟨B, 2, none⟩ = some (.int .i64 n.up) ∧ W.cell? ⟨B, 3, none⟩ = some (.bool n.rd) ∧ W.cell? ⟨B, 4, none⟩ = some (.string n.t) ∧
    W.cell? ⟨B, 5, none⟩ = some (.slice n.sA n.S.length n.sc) ∧ W.cell? ⟨B, 6, none⟩ = some (.slice n.uA n.U.length n.uc) ∧ W.cell? ⟨B, 7, none⟩ = some (.slice n.mA n.M.length n.mc) ∧ B < W.heap.size := by
  have hz := (Array.getElem?_eq_some_iff.1 h).1
  refine ⟨?_, ?_, ?_, ?_, ?_, ?_, ?_, ?_, hz⟩ <;> (unfold World.cell?; rw [h]; rfl)
theorem side_cell {W : World} {B : Nat} {x : SideV} (h : SideAt W B x) : W.cell? ⟨B, 0, none⟩ = some (.int .i64 x.p) ∧ W.cell? ⟨B, 1, none⟩ = some (.bool x.j) ∧ W.cell? ⟨B, 2, none⟩ = some (.int .i64 x.s) ∧ W.cell? ⟨B, 3, none⟩ = some (.int .i64 x.h) ∧ W.cell? ⟨B, 4, none⟩ = some (.slice x.A x.L.length x.c) ∧
    W.cell? ⟨B, 5, none⟩ = some (.int .i64 x.k.e) ∧ W.cell? ⟨B, 6, none⟩ = some (.int .i64 x.k.n) ∧ W.cell? ⟨B, 7, none⟩ = some (.slice x.k.sA x.k.s.length x.k.sc) ∧ W.cell? ⟨B, 8, none⟩ = some (.slice x.k.qA x.k.q.length x.k.qc) ∧ W.cell? ⟨B, 9, none⟩ = some (.int .i64 x.k.h) ∧ B < W.heap.size := by
  have hz := (Array.getElem?_eq_some_iff.1 h).1
  refine ⟨?_, ?_, ?_, ?_, ?_, ?_, ?_, ?_, ?_, ?_, hz⟩ <;> (unfold World.cell?; rw [h]; rfl)
theorem lastFits_nil {r : Int} : lastFits r [] := fun o h => by cases h
theorem lastFits_some {r : Int} {L : List OpV} {o : OpV} (h : L.getLast? = some o) : lastFits r L ↔ (lens o.ps).2 = r :=
  ⟨fun k => k o h, fun k q hq => by rw [h] at hq; obtain rfl := Option.some.inj hq; exact k⟩
end Go.Proofs.YtbmdepbmejnlkaaDoor
