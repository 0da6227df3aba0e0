/-
  What node.Begin answers (no walk).
  How many neighbours a node has; the text that is none (no walk).
-/
import Derived.Test.YtbmdepbmejnlkaaDoorRows
import Derived.Test.YtbmdepbmejnlkaaDoorBR
import Derived.Test.YtbmdepbmejnlkaaDoorNTickP
import Derived.Test.YtbmdepbmejnlkaaDoorBH
namespace Go.Proofs.YtbmdepbmejnlkaaDoor
open Go.ChangeShapes Go.WideShapes Go.ChangeAt Go.RowKit
set_option maxRecDepth 100000
/-- A side that was never joined. -/
def mkSide (p : Int) : SideV := ⟨p, false, 0, 0, none, 0, [], ⟨0, 1, none, 0, [], none, 0, [], 0⟩⟩
/-- A node that was born. -/
def begN (me ep : Int) (s : ByteArray) (A : Option Addr) (c : Nat) (P : List Int) : NodeV := ⟨me, ep, 0, decide (me = 0), s, A, c, P.map mkSide, none, 0, [], none, 0, []⟩
/-- What it says. -/
def begD (me ep : Int) (s : ByteArray) (P : List Int) : NodeD :=
  if me = 0 then (begN me ep s none 0 P).d else
    ⟨me, ep, 0, decide (me = 0), s, ((P.map mkSide).map SideV.d).set 0 ⟨P.headD 0, false, 0, 0, [], fillL (waitL (openL ep).d (joinF ep 0).d)⟩, [], []⟩
def begP (me ep : Int) (P : List Int) : List PostD := if me = 0 then [] else (fillP (waitL (openL ep).d (joinF ep 0).d)).map (PostD.mk (P.headD 0))
theorem begN_link {me ep : Int} {s : ByteArray} {A : Option Addr} {c : Nat} {P : List Int} {l : LinkV} (h : me ≠ 0) (hP : 0 < P.length) (hl : l.d = fillL (waitL (openL ep).d (joinF ep 0).d)) : ((begN me ep s A c P).link 0 l).d = begD me ep s P := by
  unfold begD
  rw [if_neg h]
  cases P with
  | nil => simp at hP
  | cons p P =>
    simp only [NodeV.link, begN, NodeV.d, List.map_cons, List.set_cons_zero, SideV.d, List.getD_cons_zero, hl, mkSide, List.headD_cons]
    rfl
/-- The sides' row, and the turn's block, make the state that join wants. -/
theorem begBusy {T : TypeId} {W : World} {base X : Nat} {me ep : Int} {s : ByteArray} {A : Option Addr} {c : Nat} {P : List Int} (hlo : base ≤ X) (hb : W.heap[X]? = some (.cells (turnCells (begN me ep s A c P) (.slice none 0 0) (.slice none 0 0)) T (0, 0)))
    (hr : W.ownsRow base 65 10 (.slice A P.length c) P.length ((P.map mkSide).flatMap SideV.cells)) : Busy T W base X (begN me ep s A c P) none 0 [] (.slice none 0 0) := by
  have hl : (begN me ep s A c P).S.length = P.length := by simp [begN]
  refine ⟨hlo, hb, World.ownsRow_nil _ _ _ _, ?_, by simp, fun x hx => ?_, ⟨Sl.nil, (by intro x hx; cases hx)⟩, Sl.nil⟩
  · rw [hl]
    exact hr
  · obtain ⟨p, _, rfl⟩ := List.mem_map.1 hx
    exact ⟨Sl.nil, (by intro x hx; cases hx), Sl.nil, (by intro x hx; cases hx), Sl.nil, (by intro x hx; cases hx)⟩
end Go.Proofs.YtbmdepbmejnlkaaDoor
namespace Go.Proofs.YtbmdepbmejnlkaaDoor
open Go.ChangeShapes Go.WideShapes Go.ChangeAt Go.RowKit
theorem textFault_none : textFault ⟨#[]⟩ = 0 := by unfold textFault; rw [if_neg (by decide), if_neg (by decide)]
theorem peers_some {zs : List Int} {me : Int} (h0 : 0 < me) : 0 < (peers zs me).length := by
  unfold peers peerHead
  simp [h0]
theorem own_monoS {w : World} {base base' size n : Nat} {e : TypeId} {v : Value} {xs : List Value} (h : w.ownsRow base e size v n xs) (hb : base' ≤ base) : w.ownsRow base' e size v n xs :=
  ⟨h.1, h.2.imp id fun ⟨g, cap, cur, e1, hg, rest⟩ => ⟨g, cap, cur, e1, Nat.le_trans hb hg, rest⟩⟩
theorem Busy.inS {T : TypeId} {W : World} {base X : Nat} {n : NodeV} {A : Option Addr} {c : Nat} {L : List PostV} {R : Value} (h : Busy T W base X n A c L R) : n.InS (fun b => base ≤ b ∧ b < W.heap.size) W :=
  ⟨Sl.of_own _ h.srow, fun x hx => (h.side x hx).moved fun _ k => ⟨k.1, rfl⟩, h.undo.moved fun _ k => ⟨k.1, rfl⟩, h.marks.moved fun _ k => ⟨k.1, rfl⟩⟩
/-- The turn that goes, laid into the result's block. -/
theorem begFin {w wr : World} {R base X : Nat} {n' : NodeV} {T : TypeId} {A : Option Addr} {c : Nat} {L : List PostV} (hT : T ≠ 65) (hB : Busy T wr base X n' A c L (.slice none 0 0)) (hr : wr.heap[R]? = some (.cells #[.int .i64 0, .int .i64 0, .int .i64 0, .bool false, .string ⟨#[]⟩, .slice none 0 0, .slice none 0 0, .slice none 0 0, .slice none 0 0, .slice none 0 0] 35 (0, 0))) (hR : R < base) (hw : w.heap.size ≤ R) (hb : Below w.heap.size w wr) :
    ((((((((((wr.setCell ⟨R, 0, none⟩ (.int .i64 n'.me)).setCell ⟨R, 1, none⟩ (.int .i64 n'.ep)).setCell ⟨R, 2, none⟩ (.int .i64 n'.up)).setCell ⟨R, 3, none⟩ (.bool n'.rd)).setCell ⟨R, 4, none⟩ (.string n'.t)).setCell ⟨R, 5, none⟩ (.slice n'.sA n'.S.length n'.sc)).setCell ⟨R, 6, none⟩ (.slice n'.uA n'.U.length n'.uc)).setCell ⟨R, 7, none⟩ (.slice n'.mA n'.M.length n'.mc)).setCell ⟨R, 8, none⟩ (.slice A L.length c)).setCell ⟨R, 9, none⟩ (.slice none 0 0)).heap[R]? = some (.cells (turnCells n' (.slice A L.length c) (.slice none 0 0)) 35 (0, 0)) ∧ n'.InS (fun b => w.heap.size ≤ b ∧ b < ((((((((((wr.setCell ⟨R, 0, none⟩ (.int .i64 n'.me)).setCell ⟨R, 1, none⟩ (.int .i64 n'.ep)).setCell ⟨R, 2, none⟩ (.int .i64 n'.up)).setCell ⟨R, 3, none⟩ (.bool n'.rd)).setCell ⟨R, 4, none⟩ (.string n'.t)).setCell ⟨R, 5, none⟩ (.slice n'.sA n'.S.length n'.sc)).setCell ⟨R, 6, none⟩ (.slice n'.uA n'.U.length n'.uc)).setCell ⟨R, 7, none⟩ (.slice n'.mA n'.M.length n'.mc)).setCell ⟨R, 8, none⟩ (.slice A L.length c)).setCell ⟨R, 9, none⟩ (.slice none 0 0)).heap.size) ((((((((((wr.setCell ⟨R, 0, none⟩ (.int .i64 n'.me)).setCell ⟨R, 1, none⟩ (.int .i64 n'.ep)).setCell ⟨R, 2, none⟩ (.int .i64 n'.up)).setCell ⟨R, 3, none⟩ (.bool n'.rd)).setCell ⟨R, 4, none⟩ (.string n'.t)).setCell ⟨R, 5, none⟩ (.slice n'.sA n'.S.length n'.sc)).setCell ⟨R, 6, none⟩ (.slice n'.uA n'.U.length n'.uc)).setCell ⟨R, 7, none⟩ (.slice n'.mA n'.M.length n'.mc)).setCell ⟨R, 8, none⟩ (.slice A L.length c)).setCell ⟨R, 9, none⟩ (.slice none 0 0)) ∧ PostsOwn ((((((((((wr.setCell ⟨R, 0, none⟩ (.int .i64 n'.me)).setCell ⟨R, 1, none⟩ (.int .i64 n'.ep)).setCell ⟨R, 2, none⟩ (.int .i64 n'.up)).setCell ⟨R, 3, none⟩ (.bool n'.rd)).setCell ⟨R, 4, none⟩ (.string n'.t)).setCell ⟨R, 5, none⟩ (.slice n'.sA n'.S.length n'.sc)).setCell ⟨R, 6, none⟩ (.slice n'.uA n'.U.length n'.uc)).setCell ⟨R, 7, none⟩ (.slice n'.mA n'.M.length n'.mc)).setCell ⟨R, 8, none⟩ (.slice A L.length c)).setCell ⟨R, 9, none⟩ (.slice none 0 0)) w.heap.size A c L ∧ Below w.heap.size w ((((((((((wr.setCell ⟨R, 0, none⟩ (.int .i64 n'.me)).setCell ⟨R, 1, none⟩ (.int .i64 n'.ep)).setCell ⟨R, 2, none⟩ (.int .i64 n'.up)).setCell ⟨R, 3, none⟩ (.bool n'.rd)).setCell ⟨R, 4, none⟩ (.string n'.t)).setCell ⟨R, 5, none⟩ (.slice n'.sA n'.S.length n'.sc)).setCell ⟨R, 6, none⟩ (.slice n'.uA n'.U.length n'.uc)).setCell ⟨R, 7, none⟩ (.slice n'.mA n'.M.length n'.mc)).setCell ⟨R, 8, none⟩ (.slice A L.length c)).setCell ⟨R, 9, none⟩ (.slice none 0 0)) := by
  have hO : Only R wr ((((((((((wr.setCell ⟨R, 0, none⟩ (.int .i64 n'.me)).setCell ⟨R, 1, none⟩ (.int .i64 n'.ep)).setCell ⟨R, 2, none⟩ (.int .i64 n'.up)).setCell ⟨R, 3, none⟩ (.bool n'.rd)).setCell ⟨R, 4, none⟩ (.string n'.t)).setCell ⟨R, 5, none⟩ (.slice n'.sA n'.S.length n'.sc)).setCell ⟨R, 6, none⟩ (.slice n'.uA n'.U.length n'.uc)).setCell ⟨R, 7, none⟩ (.slice n'.mA n'.M.length n'.mc)).setCell ⟨R, 8, none⟩ (.slice A L.length c)).setCell ⟨R, 9, none⟩ (.slice none 0 0)) := (((((((((Only.set _ _ _).trans (Only.set _ _ _)).trans (Only.set _ _ _)).trans (Only.set _ _ _)).trans (Only.set _ _ _)).trans (Only.set _ _ _)).trans (Only.set _ _ _)).trans (Only.set _ _ _)).trans (Only.set _ _ _)).trans (Only.set _ _ _)
  have hs := hO.size
  have hlo := hB.lo
  refine ⟨ten_sets hr _ _ _ _ _ _ _ _ _ _, hB.inS.moved fun b k => ⟨⟨by have := k.1; omega, by have := k.2; omega⟩, hO.block b k.2 (by have := k.1; omega)⟩, ?_, hb.trans (hO.below hw hb.size)⟩
  exact ((hB.work hT).posts.kept hs fun b k hl => hO.block b hl (by omega)).mono (by omega)
/-- A node whose sides are laid one by one: the turn's block, and the row. -/
structure BegAt (T : TypeId) (W : World) (w4 : World) (X : Nat) (me ep : Int) (rd : Bool) (s : ByteArray) (A : Option Addr) (c : Nat) (P : List Int) : Prop where
  blk : W.heap[X]? = some (.cells #[.int .i64 me, .int .i64 ep, .int .i64 0, .bool rd, .string s, .slice A P.length c, .slice none 0 0, .slice none 0 0, .slice none 0 0, .slice none 0 0] T (0, 0))
  row : W.ownsRow w4.heap.size 65 10 (.slice A P.length c) P.length ((P.map mkSide).flatMap SideV.cells)
  turned : Turned w4 W X none
theorem BegAt.lt {T : TypeId} {W w4 : World} {X : Nat} {me ep : Int} {rd : Bool} {s : ByteArray} {A : Option Addr} {c : Nat} {P : List Int} (h : BegAt T W w4 X me ep rd s A c P) : X < W.heap.size := (Array.getElem?_eq_some_iff.1 h.blk).1
theorem BegAt.later {T : TypeId} {W W' w4 : World} {X : Nat} {me ep : Int} {rd : Bool} {s : ByteArray} {A : Option Addr} {c : Nat} {P : List Int} (h : BegAt T W w4 X me ep rd s A c P) (hb : Below W.heap.size W W') : BegAt T W' w4 X me ep rd s A c P :=
  ⟨(hb.block _ h.lt).trans h.blk, own_belowS h.row hb, h.turned.trans (Turned.of_below hb) (.inl rfl)⟩
/-- One side more. -/
theorem BegAt.push {T : TypeId} {wr W2 w3 w4 : World} {X : Nat} {me ep p : Int} {rd : Bool} {s : ByteArray} {A A' : Option Addr} {c c' : Nat} {P : List Int} (hT : T ≠ 65) (h : BegAt T wr w4 X me ep rd s A c P) (hW : Below wr.heap.size wr W2) (hg : W2.grownBy w3 (Value.slice A P.length c).ownBlock)
    (hown : w3.ownsRow w4.heap.size 65 10 (.slice A' (P.length + 1) c') (P.length + 1) ((P.map mkSide).flatMap SideV.cells ++ (mkSide p).cells)) :
    BegAt T (w3.setCell ⟨X, 5, none⟩ (.slice A' (P.length + 1) c')) w4 X me ep rd s A' c' (P ++ [p]) := by
  have h2 := h.later hW
  have hne : (Value.slice A P.length c).ownBlock ≠ some X := own_apart h2.row h2.blk hT
  have hX3 := (hg.block X h2.lt (fun e => hne e.symm)).trans h2.blk
  have hne' : (Value.slice A' (P.length + 1) c').ownBlock ≠ some X := own_apart hown hX3 hT
  have hlen : (P ++ [p]).length = P.length + 1 := by simp
  refine ⟨by rw [hlen]; exact any_set 5 _ hX3, ?_, ?_⟩
  · rw [hlen, List.map_append, List.flatMap_append]
    have hr : (w3.setCell ⟨X, 5, none⟩ (.slice A' (P.length + 1) c')).ownsRow w4.heap.size 65 10 (.slice A' (P.length + 1) c') (P.length + 1) ((P.map mkSide).flatMap SideV.cells ++ (mkSide p).cells) := by
      refine ⟨hown.1, ?_⟩
      rcases hown.2 with hn | ⟨g, cap, cur, e1, k1, k2, rest⟩
      · exact .inl hn
      · exact .inr ⟨g, cap, cur, e1, k1, (Below.heap_setCell _ _ _ _ (by show g ≠ X; exact fun e => hne' (by rw [e1, e]; rfl))).trans k2, rest⟩
    simpa using hr
  · refine (h2.turned.trans (Turned.of_grown hg) ?_).trans (Turned.of_set w3 X 5 _ none) (.inl rfl)
    exact .inr fun x hx => (h2.row.lt x hx).1
end Go.Proofs.YtbmdepbmejnlkaaDoor
