/-
  A link, and packets, that lie in blocks of a set (no walk).
-/
import Derived.Test.YtbmdepbmejnlkaaDoorRows
import Derived.Test.YtbmdepbmejnlkaaDoorBF
namespace Go.Proofs.YtbmdepbmejnlkaaDoor
open Go.ChangeShapes Go.WideShapes Go.ChangeAt Go.RowKit
set_option maxRecDepth 100000
/-- A link that lies in blocks of S. -/
structure LinkV.InS (S : Nat → Prop) (w : World) (l : LinkV) : Prop where
  s : Sl S w 5 l.sA l.s.length (l.s.flatMap FrameV.cells)
  so : ∀ f ∈ l.s, OpIn S w f.o.A f.o.ps
  q : Sl S w 5 l.qA l.q.length (l.q.flatMap FrameV.cells)
  qo : ∀ f ∈ l.q, OpIn S w f.o.A f.o.ps
theorem LinkV.InS.moved {S S' : Nat → Prop} {w w' : World} {l : LinkV} (h : l.InS S w) (k : ∀ b, S b → S' b ∧ w'.heap[b]? = w.heap[b]?) : l.InS S' w' :=
  ⟨h.s.moved k, fun f hf => (h.so f hf).moved k, h.q.moved k, fun f hf => (h.qo f hf).moved k⟩
theorem LinkV.InS.in_ {S : Nat → Prop} {w : World} {l : LinkV} (h : l.InS S w) (k : ∀ b, S b → b < w.heap.size) : l.In w := by
  have h' := h.moved (S' := (· < w.heap.size)) fun b hb => ⟨k b hb, rfl⟩
  exact ⟨⟨h'.s, h'.so⟩, ⟨h'.q, h'.qo⟩⟩
theorem LinkV.In.inS {w : World} {l : LinkV} (h : l.In w) : l.InS (· < w.heap.size) w := ⟨h.s.row, h.s.each, h.q.row, h.q.each⟩
/-- Packets that lie in blocks of S. -/
structure PksS (S : Nat → Prop) (w : World) (A : Option Addr) (L : List PacketV) : Prop where
  row : Sl S w 9 A L.length (L.flatMap PacketV.cells)
  each : ∀ p ∈ L, OpIn S w p.f.o.A p.f.o.ps
theorem PksS.moved {S S' : Nat → Prop} {w w' : World} {A : Option Addr} {L : List PacketV} (h : PksS S w A L) (k : ∀ b, S b → S' b ∧ w'.heap[b]? = w.heap[b]?) : PksS S' w' A L := ⟨h.row.moved k, fun p hp => (h.each p hp).moved k⟩
/-- A call that hands back a link, packets and an error: in new memory. -/
def RetSendF (w : World) (d : LinkD) (D : List PacketD) (er : Int) (e : Ending) (w' : World) : Prop :=
  ∃ (l : LinkV) (A : Option Addr) (c : Nat) (L : List PacketV), e = .returned (.tuple #[l.val, .slice A L.length c, .int .i64 er]) ∧ l.d = d ∧ L.map PacketV.d = D ∧ l.InS (fun b => w.heap.size ≤ b ∧ b < w'.heap.size) w' ∧ PksS (fun b => w.heap.size ≤ b ∧ b < w'.heap.size) w' A L ∧ Below w.heap.size w w'
end Go.Proofs.YtbmdepbmejnlkaaDoor
