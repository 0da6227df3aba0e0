/-
  Work that posts: its block, its posts, its node's sides (no walk).
-/
import Derived.Test.YtbmdepbmejnlkaaDoorRows
import Derived.Test.YtbmdepbmejnlkaaDoorPostV
import Derived.Test.YtbmdepbmejnlkaaDoorBL
import Derived.Test.YtbmdepbmejnlkaaDoorBuild
namespace Go.Proofs.YtbmdepbmejnlkaaDoor
open Go.ChangeShapes Go.WideShapes Go.ChangeAt Go.RowKit
set_option maxRecDepth 100000
/-- The block of a turn (of type T), its posts in memory of its own behind that block, its node's sides elsewhere. -/
structure WorkAt (T : TypeId) (W : World) (X : Nat) (n : NodeV) (A : Option Addr) (c : Nat) (L : List PostV) (R : Value) : Prop where
  blk : W.heap[X]? = some (.cells (turnCells n (.slice A L.length c) R) T (0, 0))
  posts : PostsOwn W (X + 1) A c L
  sides : Sl (fun b => b < W.heap.size ∧ b ≠ X ∧ (Value.slice A L.length c).ownBlock ≠ some b) W 10 n.sA n.S.length (n.S.flatMap SideV.cells)
theorem WorkAt.lt {T : TypeId} {W : World} {X : Nat} {n : NodeV} {A : Option Addr} {c : Nat} {L : List PostV} {R : Value} (h : WorkAt T W X n A c L R) : X < W.heap.size := (Array.getElem?_eq_some_iff.1 h.blk).1
theorem WorkAt.later {T : TypeId} {W W' : World} {X : Nat} {n : NodeV} {A : Option Addr} {c : Nat} {L : List PostV} {R : Value} (h : WorkAt T W X n A c L R) (hb : Below W.heap.size W W') : WorkAt T W' X n A c L R :=
  ⟨(hb.block _ h.lt).trans h.blk, h.posts.later hb, h.sides.moved fun b hk => ⟨⟨by have := hb.size; omega, hk.2⟩, hb.block b hk.1⟩⟩
/-- Work that posted: what has turned, and where its posts lie. -/
structure PostedTo (T : TypeId) (w : World) (X : Nat) (n : NodeV) (A : Option Addr) (k c : Nat) (L : List PostV) (R : Value) (A' : Option Addr) (c' : Nat) (w' : World) : Prop where
  at_ : WorkAt T w' X n A' c' L R
  turned : Turned w w' X (Value.slice A k c).ownBlock
  own : (Value.slice A' L.length c').ownBlock = (Value.slice A k c).ownBlock ∨ ∀ x, (Value.slice A' L.length c').ownBlock = some x → w.heap.size ≤ x
theorem PostedTo.self {T : TypeId} {w w' : World} {X : Nat} {n : NodeV} {A : Option Addr} {c : Nat} {L : List PostV} {R : Value} (h : WorkAt T w X n A c L R) (hb : Below w.heap.size w w') : PostedTo T w X n A L.length c L R A c w' :=
  ⟨h.later hb, Turned.of_below hb, .inl rfl⟩
theorem PostedTo.trans {T : TypeId} {w w1 w2 : World} {X : Nat} {n : NodeV} {A A1 A2 : Option Addr} {k c c1 c2 : Nat} {L1 L2 : List PostV} {R : Value} (h : PostedTo T w X n A k c L1 R A1 c1 w1) (g : PostedTo T w1 X n A1 L1.length c1 L2 R A2 c2 w2) : PostedTo T w X n A k c L2 R A2 c2 w2 := by
  refine ⟨g.at_, h.turned.trans g.turned h.own, ?_⟩
  rcases g.own with e | e
  · rcases h.own with e1 | e1
    · exact .inl (e.trans e1)
    · exact .inr fun x hx => e1 x (e.symm.trans hx)
  · exact .inr fun x hx => Nat.le_trans h.turned.size (e x hx)
theorem PostedTo.later {T : TypeId} {w w1 w2 : World} {X : Nat} {n : NodeV} {A A1 : Option Addr} {k c c1 : Nat} {L1 : List PostV} {R : Value} (h : PostedTo T w X n A k c L1 R A1 c1 w1) (hb : Below w1.heap.size w1 w2) : PostedTo T w X n A k c L1 R A1 c1 w2 :=
  h.trans (PostedTo.self h.at_ hb)
/-- Rows that lie apart from the turn and its posts stay. -/
theorem PostedTo.apart {T : TypeId} {w w' : World} {X : Nat} {n : NodeV} {A A' : Option Addr} {k c c' : Nat} {L : List PostV} {R : Value} (h : PostedTo T w X n A k c L R A' c' w') {b : Nat} (hb : b < w.heap.size ∧ b ≠ X ∧ (Value.slice A k c).ownBlock ≠ some b) :
    (b < w'.heap.size ∧ b ≠ X ∧ (Value.slice A' L.length c').ownBlock ≠ some b) ∧ w'.heap[b]? = w.heap[b]? := by
  refine ⟨⟨Nat.lt_of_lt_of_le hb.1 h.turned.size, hb.2.1, fun e => ?_⟩, h.turned.block b hb.1 hb.2.1 (fun e => hb.2.2 e.symm)⟩
  rcases h.own with e1 | e1
  · exact hb.2.2 (e1.symm.trans e)
  · have := e1 b e
    omega
/-- One post more. -/
theorem WorkAt.post {T : TypeId} {w W2 w3 : World} {X : Nat} {n : NodeV} {A A' : Option Addr} {c c' : Nat} {L : List PostV} {R : Value} {x : PostV} (hT : T ≠ 87) (h : WorkAt T w X n A c L R) (hW : Below w.heap.size w W2)
    (hx : OpIn (fun b => (X + 1 ≤ b ∧ b < w.heap.size) ∧ (Value.slice A L.length c).ownBlock ≠ some b) w x.p.f.o.A x.p.f.o.ps) (hg : W2.grownBy w3 (Value.slice A L.length c).ownBlock)
    (hown : w3.ownsRow (X + 1) 87 10 (.slice A' (L.length + 1) c') (L.length + 1) (L.flatMap PostV.cells ++ x.cells))
    (hat : (Value.slice A' (L.length + 1) c').ownBlock = (Value.slice A L.length c).ownBlock ∨ (Value.slice A' (L.length + 1) c').ownBlock = some W2.heap.size) :
    PostedTo T w X n A L.length c (L ++ [x]) R A' c' (w3.setCell ⟨X, 8, none⟩ (.slice A' (L.length + 1) c')) := by
  have hlen : (L ++ [x]).length = L.length + 1 := by simp
  have h2 := h.later hW
  have hX2 := h2.lt
  have hne : (Value.slice A L.length c).ownBlock ≠ some X := own_apart h2.posts.row h2.blk hT
  have hX3 : w3.heap[X]? = some (.cells (turnCells n (.slice A L.length c) R) T (0, 0)) := (hg.block X hX2 (fun e => hne e.symm)).trans h2.blk
  have hx2 : OpIn (fun b => (X + 1 ≤ b ∧ b < W2.heap.size) ∧ (Value.slice A L.length c).ownBlock ≠ some b) W2 (PostV.op x).A (PostV.op x).ps := hx.moved fun b hb => ⟨⟨⟨hb.1.1, by have := hW.size; omega⟩, hb.2⟩, hW.block b hb.1.2⟩
  have hP := RowOwn.push3 (f := PostV.cells) (op := PostV.op) h2.posts hx2 hg hown hat
  have hz3 := hg.size
  have hs4 : (w3.setCell ⟨X, 8, none⟩ (.slice A' (L.length + 1) c')).heap.size = w3.heap.size := by simp [World.setCell]
  have hP4 : PostsOwn (w3.setCell ⟨X, 8, none⟩ (.slice A' (L.length + 1) c')) (X + 1) A' c' (L ++ [x]) := hP.kept (by omega) fun b hb _ => Below.heap_setCell _ _ _ _ (by show b ≠ X; omega)
  have hO : (Value.slice A' (L ++ [x]).length c').ownBlock = (Value.slice A L.length c).ownBlock ∨ ∀ y, (Value.slice A' (L ++ [x]).length c').ownBlock = some y → w.heap.size ≤ y := by
    rw [hlen]
    rcases hat with e | e
    · exact .inl e
    · exact .inr fun y hy => by
        rw [e] at hy
        have := Option.some.inj hy
        have := hW.size
        omega
  have hTu : Turned w (w3.setCell ⟨X, 8, none⟩ (.slice A' (L.length + 1) c')) X (Value.slice A L.length c).ownBlock :=
    ((Turned.of_below hW).trans (Turned.of_grown hg) (.inl rfl)).trans (Turned.of_set w3 X 8 _ _) (.inl rfl)
  refine ⟨⟨?_, hP4, ?_⟩, hTu, hO⟩
  · rw [hlen]
    exact any_set 8 _ hX3
  · refine h.sides.moved fun b hb => ⟨⟨by rw [hs4]; have := hW.size; omega, hb.2.1, fun e => ?_⟩, hTu.block b hb.1 hb.2.1 (fun e => hb.2.2 e.symm)⟩
    rcases hO with e1 | e1
    · exact hb.2.2 (e1.symm.trans e)
    · have := e1 b e
      omega
end Go.Proofs.YtbmdepbmejnlkaaDoor
