/-
  What stands in memory while a packet is read: the result's block, the packet's, and the operation's (no walk).
-/
import Derived.Test.YtieofljkgmkaiaaDoorRows
import Derived.Test.YtieofljkgmkaiaaDoorReadF
import Derived.Test.YtieofljkgmkaiaaDoorTickP
namespace Go.Proofs.YtieofljkgmkaiaaDoor
open Go.ChangeShapes Go.WideShapes Go.ChangeAt Go.RowKit
set_option maxRecDepth 100000
/-- The packet's block P, the result's, and whatever reads in block B. -/
structure DecP (w W : World) (B P : Nat) (vs : Array Value) (A : Option Addr) (ps : List PartD) : Prop where
  ord : w.heap.size < B ∧ w.heap.size < P ∧ B < P ∧ P < W.heap.size
  r : PacketAt W w.heap.size 0 0 false 0 0 0 0 none 0 0 ⟨#[]⟩
  p : W.heap[P]? = some (.cells vs 60 (0, 0))
  op : OpIn (fun b => P < b ∧ b < W.heap.size) W A ps
  b : Below w.heap.size w W
theorem DecP.only {w W W' : World} {B P : Nat} {vs : Array Value} {A : Option Addr} {ps : List PartD} (h : DecP w W B P vs A ps) (ho : Only B W W') : DecP w W' B P vs A ps := by
  obtain ⟨o1, o2, o3, o4⟩ := h.ord
  refine ⟨⟨o1, o2, o3, Nat.lt_of_lt_of_le o4 ho.size⟩, (ho.block _ (by omega) (by omega)).trans h.r, (ho.block _ (by omega) (by omega)).trans h.p, h.op.moved fun b hb => ⟨⟨hb.1, Nat.lt_of_lt_of_le hb.2 ho.size⟩, ho.block b hb.2 (by omega)⟩, h.b.trans (ho.below (by omega) (by omega))⟩
theorem DecP.later {w W W' : World} {B P : Nat} {vs : Array Value} {A : Option Addr} {ps : List PartD} (h : DecP w W B P vs A ps) (ho : Below W.heap.size W W') : DecP w W' B P vs A ps := h.only (Only.of_below ho)
theorem DecP.set {w W : World} {B P : Nat} {vs : Array Value} {A : Option Addr} {ps : List PartD} (h : DecP w W B P vs A ps) (j : Nat) (x : Value) : DecP w (W.setCell ⟨P, j, none⟩ x) B P (vs.setIfInBounds j x) A ps := by
  obtain ⟨o1, o2, o3, o4⟩ := h.ord
  have hz : (W.setCell ⟨P, j, none⟩ x).heap.size = W.heap.size := by simp [World.setCell]
  exact ⟨⟨o1, o2, o3, by rw [hz]; exact o4⟩, (Below.heap_setCell _ _ _ _ (show w.heap.size ≠ P by omega)).trans h.r, any_set j x h.p, h.op.moved fun b hb => ⟨⟨hb.1, by rw [hz]; exact hb.2⟩, Below.heap_setCell _ _ _ _ (show b ≠ P by omega)⟩, bSet h.b (p := ⟨P, j, none⟩) (show w.heap.size ≤ P by omega) _⟩
theorem DecP.with {w W : World} {B P : Nat} {vs : Array Value} {A A' : Option Addr} {ps ps' : List PartD} (h : DecP w W B P vs A ps) (ho : OpIn (fun b => P < b ∧ b < W.heap.size) W A' ps') : DecP w W B P vs A' ps' := ⟨h.ord, h.r, h.p, ho, h.b⟩
/-- A call that hands back a packet and what was wrong. -/
def RetPk (w : World) (x : PacketD × Int) (e : Ending) (w' : World) : Prop :=
  ∃ A c, e = .returned (.tuple #[packetV x.1.epoch x.1.number x.1.bare x.1.ack x.1.frame.kind x.1.frame.heard x.1.frame.epoch A x.1.frame.op.length c x.1.frame.text, .int .i64 x.2]) ∧ OpIn (fun b => w.heap.size ≤ b ∧ b < w'.heap.size) w' A x.1.frame.op ∧ Below w.heap.size w w'
abbrev noFrame : FrameD := ⟨0, 0, 0, [], ⟨#[]⟩⟩
abbrev noPacket : PacketD := ⟨0, 0, false, 0, noFrame⟩
end Go.Proofs.YtieofljkgmkaiaaDoor
