/- A part of the proof of NodeUndoes. -/
import Derived.Test.YtacacoklddogmaaGreatDoorKBL
import Derived.Test.YtacacoklddogmaaGreatDoorKDE
namespace Go.Proofs.YtacacoklddogmaaGreatDoor
set_option maxHeartbeats 4000000
open Go.ChangeShapes Go.WideShapes Go.ChangeAt Go.RowKit
set_option maxRecDepth 100000
theorem infoPacket : (Tryz.prog.info? 48).map (fun i => (i.zero, i.size, i.bytes)) = some (some (.agg #[.int .i64 0, .int .i64 0, .bool false, .int .i64 0, .int .i64 0, .int .i64 0, .int .i64 0, .slice none 0 0, .string ⟨#[]⟩]), 9, 96) := by kernel_rfl
abbrev PacketsOwn (w : World) (base : Nat) (A : Option Addr) (c : Nat) (L : List PacketV) : Prop := RowOwn 48 9 PacketV.cells PacketV.op w base A c L
theorem PacketsOwn.in_ {w : World} {base : Nat} {A : Option Addr} {c : Nat} {L : List PacketV} (h : PacketsOwn w base A c L) : PacketsIn w A L :=
 ⟨(Sl.of_own _ h.row).moved fun _ hx => ⟨hx.2, rfl⟩, fun o ho => (h.each o ho).moved fun _ hx => ⟨hx.1.2, rfl⟩⟩
structure PostV where
 who : Int
 p : PacketV
instance : Inhabited PostV := ⟨⟨0, default⟩⟩
def PostV.cells (x : PostV) : List Value := .int .i64 x.who :: x.p.cells
theorem PostV.cells_len (x : PostV) : x.cells.length = 10 := rfl
abbrev PostV.op (x : PostV) : OpV := x.p.f.o
structure PostD where
 who : Int
 p : PacketD
abbrev PostV.d (x : PostV) : PostD := ⟨x.who, x.p.d⟩
structure PostsIn (w : World) (A : Option Addr) (L : List PostV) : Prop where
 row : Sl (· < w.heap.size) w 10 A L.length (L.flatMap PostV.cells)
 each : ∀ x ∈ L, OpIn (· < w.heap.size) w x.p.f.o.A x.p.f.o.ps
theorem PostsIn.later {w w' : World} {A : Option Addr} {L : List PostV} (h : PostsIn w A L) (hb : Below w.heap.size w w') : PostsIn w' A L := ⟨h.row.later hb, fun r hr => Sl.later (h.each r hr) hb⟩
theorem PostsIn.nil (w : World) : PostsIn w none [] := ⟨Sl.nil, by simp⟩
theorem PostsIn.at_ {w : World} {A : Option Addr} {L : List PostV} (h : PostsIn w A L) {k : Nat} (hk : k < L.length) :
 ∃ b o, A = some ⟨b, o, none⟩ ∧ b < w.heap.size ∧ w.cell? ⟨b, o + k * 10, none⟩ = some (.int .i64 L[k].who) ∧ w.cell? ⟨b, o + k * 10 + 1, none⟩ = some (.int .i64 L[k].p.ep) ∧ w.cell? ⟨b, o + k * 10 + 2, none⟩ = some (.int .i64 L[k].p.nu) ∧ w.cell? ⟨b, o + k * 10 + 3, none⟩ = some (.bool L[k].p.b) ∧ w.cell? ⟨b, o + k * 10 + 4, none⟩ = some (.int .i64 L[k].p.ak) ∧
  w.cell? ⟨b, o + k * 10 + 5, none⟩ = some (.int .i64 L[k].p.f.k) ∧ w.cell? ⟨b, o + k * 10 + 6, none⟩ = some (.int .i64 L[k].p.f.h) ∧ w.cell? ⟨b, o + k * 10 + 7, none⟩ = some (.int .i64 L[k].p.f.e) ∧
  w.cell? ⟨b, o + k * 10 + 8, none⟩ = some (.slice L[k].p.f.o.A L[k].p.f.o.ps.length L[k].p.f.o.c) ∧ w.cell? ⟨b, o + k * 10 + 9, none⟩ = some (.string L[k].p.f.s) ∧ OpIn (· < w.heap.size) w L[k].p.f.o.A L[k].p.f.o.ps := by
 obtain ⟨b, o, e, hb, hc⟩ := x_ PostV.cells 10 PostV.cells_len h.row hk
 exact ⟨b, o, e, hb, hc 0 _ rfl, hc 1 _ rfl, hc 2 _ rfl, hc 3 _ rfl, hc 4 _ rfl, hc 5 _ rfl, hc 6 _ rfl, hc 7 _ rfl, hc 8 _ rfl, hc 9 _ rfl, h.each _ (List.getElem_mem hk)⟩
theorem infoPost : (Tryz.prog.info? 79).map (fun i => (i.zero, i.size, i.bytes)) = some (some (.agg #[.int .i64 0, .int .i64 0, .int .i64 0, .bool false, .int .i64 0, .int .i64 0, .int .i64 0, .int .i64 0, .slice none 0 0, .string ⟨#[]⟩]), 10, 104) := by kernel_rfl
abbrev PostsOwn (w : World) (base : Nat) (A : Option Addr) (c : Nat) (L : List PostV) : Prop := RowOwn 79 10 PostV.cells PostV.op w base A c L
theorem PostsOwn.in_ {w : World} {base : Nat} {A : Option Addr} {c : Nat} {L : List PostV} (h : PostsOwn w base A c L) : PostsIn w A L :=
 ⟨(Sl.of_own _ h.row).moved fun _ hx => ⟨hx.2, rfl⟩, fun o ho => (h.each o ho).moved fun _ hx => ⟨hx.1.2, rfl⟩⟩
theorem RowOwn.push3 {α : Type} {t : TypeId} {n : Nat} {f : α → List Value} {op : α → OpV} {wr w3 : World} {base : Nat} {Ao A' : Option Addr} {co c' : Nat} {L : List α} {x : α} (hO : RowOwn t n f op wr base Ao co L)
 (hx : OpIn (fun b => (base ≤ b ∧ b < wr.heap.size) ∧ (Value.slice Ao L.length co).ownBlock ≠ some b) wr (op x).A (op x).ps) (hg : wr.grownBy w3 (Value.slice Ao L.length co).ownBlock)
 (hown : w3.ownsRow base t n (.slice A' (L.length + 1) c') (L.length + 1) (L.flatMap f ++ f x))
 (hat : (Value.slice A' (L.length + 1) c').ownBlock = (Value.slice Ao L.length co).ownBlock ∨ (Value.slice A' (L.length + 1) c').ownBlock = some wr.heap.size) : RowOwn t n f op w3 base A' c' (L ++ [x]) := by
 have hs3 := hg.size
 have hlen : (L ++ [x]).length = L.length + 1 := by simp
 have hnew : ∀ b, b < wr.heap.size → (Value.slice Ao L.length co).ownBlock ≠ some b → (Value.slice A' (L.length + 1) c').ownBlock ≠ some b := fun b hb hne e => by
  rcases hat with h | h
  · exact hne (h.symm.trans e)
  · rw [h] at e
    simp at e
    omega
 refine ⟨by rw [hlen]; simpa using hown, fun p hp => ?_⟩
 rw [hlen]
 have hall : ∀ p ∈ L ++ [x], OpIn (fun b => (base ≤ b ∧ b < wr.heap.size) ∧ (Value.slice Ao L.length co).ownBlock ≠ some b) wr (op p).A (op p).ps := fun p hp => by
  rcases List.mem_append.1 hp with hp | hp
  · exact hO.each p hp
  · obtain rfl : p = x := by simpa using hp
    exact hx
 refine (hall p hp).moved fun b hb => ?_
 exact ⟨⟨⟨hb.1.1, by omega⟩, hnew b hb.1.2 hb.2⟩, hg.block b hb.1.2 (fun e => hb.2 e.symm)⟩
structure WorkAt (T : TypeId) (W : World) (X : Nat) (n : NodeV) (A : Option Addr) (c : Nat) (L : List PostV) (R : Value) : Prop where
 blk : W.heap[X]? = some (.cells (turnCells n (.slice A L.length c) R) T (0, 0))
 posts : PostsOwn W (X + 1) A c L
 sides : Sl (fun b => b < W.heap.size ∧ b ≠ X ∧ (Value.slice A L.length c).ownBlock ≠ some b) W 10 n.sA n.S.length (n.S.flatMap SideV.cells)
theorem WorkAt.lt {T : TypeId} {W : World} {X : Nat} {n : NodeV} {A : Option Addr} {c : Nat} {L : List PostV} {R : Value} (h : WorkAt T W X n A c L R) : X < W.heap.size := (Array.getElem?_eq_some_iff.1 h.blk).1
theorem WorkAt.later {T : TypeId} {W W' : World} {X : Nat} {n : NodeV} {A : Option Addr} {c : Nat} {L : List PostV} {R : Value} (h : WorkAt T W X n A c L R) (hb : Below W.heap.size W W') : WorkAt T W' X n A c L R :=
 ⟨(hb.block _ h.lt).trans h.blk, h.posts.later hb, h.sides.moved fun b hk => ⟨⟨by have := hb.size; omega, hk.2⟩, hb.block b hk.1⟩⟩
structure PostedTo (T : TypeId) (w : World) (X : Nat) (n : NodeV) (A : Option Addr) (k c : Nat) (L : List PostV) (R : Value) (A' : Option Addr) (c' : Nat) (w' : World) : Prop where
 at_ : WorkAt T w' X n A' c' L R
 turned : Turned w w' X (Value.slice A k c).ownBlock
 own : (Value.slice A' L.length c').ownBlock = (Value.slice A k c).ownBlock ∨ ∀ x, (Value.slice A' L.length c').ownBlock = some x → w.heap.size ≤ x
theorem PostedTo.self {T : TypeId} {w w' : World} {X : Nat} {n : NodeV} {A : Option Addr} {c : Nat} {L : List PostV} {R : Value} (h : WorkAt T w X n A c L R) (hb : Below w.heap.size w w') : PostedTo T w X n A L.length c L R A c w' :=
 ⟨h.later hb, Turned.of_below hb, .inl rfl⟩
theorem PostedTo.trans {T : TypeId} {w w1 w2 : World} {X : Nat} {n : NodeV} {A A1 A2 : Option Addr} {k c c1 c2 : Nat} {L1 L2 : List PostV} {R : Value} (h : PostedTo T w X n A k c L1 R A1 c1 w1) (g : PostedTo T w1 X n A1 L1.length c1 L2 R A2 c2 w2) : PostedTo T w X n A k c L2 R A2 c2 w2 := by
 refine ⟨g.at_, h.turned.trans g.turned h.own, ?_⟩
 rcases g.own with e | e
 · rcases h.own with e1 | e1
   · exact .inl (e.trans e1)
   · exact .inr fun x hx => e1 x (e.symm.trans hx)
 · exact .inr fun x hx => Nat.le_trans h.turned.size (e x hx)
theorem PostedTo.later {T : TypeId} {w w1 w2 : World} {X : Nat} {n : NodeV} {A A1 : Option Addr} {k c c1 : Nat} {L1 : List PostV} {R : Value} (h : PostedTo T w X n A k c L1 R A1 c1 w1) (hb : Below w1.heap.size w1 w2) : PostedTo T w X n A k c L1 R A1 c1 w2 :=
 h.trans (PostedTo.self h.at_ hb)
theorem PostedTo.apart {T : TypeId} {w w' : World} {X : Nat} {n : NodeV} {A A' : Option Addr} {k c c' : Nat} {L : List PostV} {R : Value} (h : PostedTo T w X n A k c L R A' c' w') {b : Nat} (hb : b < w.heap.size ∧ b ≠ X ∧ (Value.slice A k c).ownBlock ≠ some b) :
 (b < w'.heap.size ∧ b ≠ X ∧ (Value.slice A' L.length c').ownBlock ≠ some b) ∧ w'.heap[b]? = w.heap[b]? := by
 refine ⟨⟨Nat.lt_of_lt_of_le hb.1 h.turned.size, hb.2.1, fun e => ?_⟩, h.turned.block b hb.1 hb.2.1 (fun e => hb.2.2 e.symm)⟩
 rcases h.own with e1 | e1
 · exact hb.2.2 (e1.symm.trans e)
 · have := e1 b e
   omega
theorem WorkAt.post {T : TypeId} {w W2 w3 : World} {X : Nat} {n : NodeV} {A A' : Option Addr} {c c' : Nat} {L : List PostV} {R : Value} {x : PostV} (hT : T ≠ 79) (h : WorkAt T w X n A c L R) (hW : Below w.heap.size w W2)
 (hx : OpIn (fun b => (X + 1 ≤ b ∧ b < w.heap.size) ∧ (Value.slice A L.length c).ownBlock ≠ some b) w x.p.f.o.A x.p.f.o.ps) (hg : W2.grownBy w3 (Value.slice A L.length c).ownBlock)
 (hown : w3.ownsRow (X + 1) 79 10 (.slice A' (L.length + 1) c') (L.length + 1) (L.flatMap PostV.cells ++ x.cells))
 (hat : (Value.slice A' (L.length + 1) c').ownBlock = (Value.slice A L.length c).ownBlock ∨ (Value.slice A' (L.length + 1) c').ownBlock = some W2.heap.size) :
 PostedTo T w X n A L.length c (L ++ [x]) R A' c' (w3.setCell ⟨X, 8, none⟩ (.slice A' (L.length + 1) c')) := by
 have hlen : (L ++ [x]).length = L.length + 1 := by simp
 have h2 := h.later hW
 have hX2 := h2.lt
 have hne : (Value.slice A L.length c).ownBlock ≠ some X := m_ h2.posts.row h2.blk hT
 have hX3 : w3.heap[X]? = some (.cells (turnCells n (.slice A L.length c) R) T (0, 0)) := (hg.block X hX2 (fun e => hne e.symm)).trans h2.blk
 have hx2 : OpIn (fun b => (X + 1 ≤ b ∧ b < W2.heap.size) ∧ (Value.slice A L.length c).ownBlock ≠ some b) W2 (PostV.op x).A (PostV.op x).ps := hx.moved fun b hb => ⟨⟨⟨hb.1.1, by have := hW.size; omega⟩, hb.2⟩, hW.block b hb.1.2⟩
 have hP := RowOwn.push3 (f := PostV.cells) (op := PostV.op) h2.posts hx2 hg hown hat
 have hz3 := hg.size
 have hs4 : (w3.setCell ⟨X, 8, none⟩ (.slice A' (L.length + 1) c')).heap.size = w3.heap.size := by simp [World.setCell]
 have hP4 : PostsOwn (w3.setCell ⟨X, 8, none⟩ (.slice A' (L.length + 1) c')) (X + 1) A' c' (L ++ [x]) := hP.kept (by omega) fun b hb _ => bH_ (by show b ≠ X; omega)
 have hO : (Value.slice A' (L ++ [x]).length c').ownBlock = (Value.slice A L.length c).ownBlock ∨ ∀ y, (Value.slice A' (L ++ [x]).length c').ownBlock = some y → w.heap.size ≤ y := by
  rw [hlen]
  rcases hat with e | e
  · exact .inl e
  · exact .inr fun y hy => by
     rw [e] at hy
     have := Option.some.inj hy
     have := hW.size
     omega
 have hTu : Turned w (w3.setCell ⟨X, 8, none⟩ (.slice A' (L.length + 1) c')) X (Value.slice A L.length c).ownBlock :=
  ((Turned.of_below hW).trans (Turned.of_grown hg) (.inl rfl)).trans (Turned.of_set w3 X 8 _ _) (.inl rfl)
 refine ⟨⟨?_, hP4, ?_⟩, hTu, hO⟩
 · rw [hlen]
   exact e_ 8 _ hX3
 · refine h.sides.moved fun b hb => ⟨⟨by rw [hs4]; have := hW.size; omega, hb.2.1, fun e => ?_⟩, hTu.block b hb.1 hb.2.1 (fun e => hb.2.2 e.symm)⟩
   rcases hO with e1 | e1
   · exact hb.2.2 (e1.symm.trans e)
   · have := e1 b e
     omega
end Go.Proofs.YtacacoklddogmaaGreatDoor
