/-
  Contracts of link.Check and its reference LinkMay.
-/
import Derived.Test.YtbmdepbmejnlkaaDoorRows
import Derived.Test.YtbmdepbmejnlkaaDoorFrameV
import Derived.Test.YtbmdepbmejnlkaaDoorIn
namespace Go.Proofs.YtbmdepbmejnlkaaDoor
open Go.ChangeShapes Go.WideShapes Go.ChangeAt Go.RowKit
set_option maxRecDepth 100000
/-- A link as its cells hold it. -/
structure LinkV where
  e : Int
  n : Int
  sA : Option Addr
  sc : Nat
  s : List FrameV
  qA : Option Addr
  qc : Nat
  q : List FrameV
  h : Int
abbrev LinkV.val (l : LinkV) : Value := .agg #[.int .i64 l.e, .int .i64 l.n, .slice l.sA l.s.length l.sc, .slice l.qA l.q.length l.qc, .int .i64 l.h]
structure LinkV.In (w : World) (l : LinkV) : Prop where
  s : FramesIn w l.sA l.s
  q : FramesIn w l.qA l.q
structure LinkV.Small (l : LinkV) : Prop where
  sl : l.s.length ≤ 1048576
  ql : l.q.length ≤ 1048576
  s : ∀ f ∈ l.s, f.Small
  q : ∀ f ∈ l.q, f.Small
def linkNums (l : LinkV) : Prop := (0 ≤ l.e ∧ l.e ≤ 1048576) ∧ (1 ≤ l.n ∧ l.n ≤ 1048576) ∧ (0 ≤ l.h ∧ l.h ≤ 1048576)
def linkLens (l : LinkV) : Prop := l.s.length ≤ 8 ∧ (l.s.length : Int) < l.n ∧ ¬ (0 < l.q.length ∧ l.s.length < 8)
def linkNone (l : LinkV) : Prop := l.e = 0 → l.s.length = 0 ∧ l.h = 0
instance (l : LinkV) : Decidable (linkNums l) := by
  unfold linkNums
  exact inferInstance
instance (l : LinkV) : Decidable (linkLens l) := by
  unfold linkLens
  exact inferInstance
instance (l : LinkV) : Decidable (linkNone l) := by
  unfold linkNone
  exact inferInstance
/-- May this link be? -/
def linkMay (l : LinkV) : Prop := linkNums l ∧ linkLens l ∧ (framesOk l.s ∧ framesOk l.q) ∧ linkNone l
instance (l : LinkV) : Decidable (linkMay l) := by
  unfold linkMay
  exact inferInstance
set_option maxHeartbeats 1000000 in
theorem LinkCheck_nums (w : World) (l : LinkV) (hn : ¬ linkNums l) : Calls Tryd.prog 64 #[l.val] w fun r w' => r = .returned (.int .i64 9) ∧ Below w.heap.size w w' := by
  have H := Lib.hid hn
  clear hn
  unfold linkNums at H
  obtain ⟨e, n, sA, sc, s, qA, qc, q, h⟩ := l
  dsimp only at *
  go_enter Tryd.func64, Tryd.ntmps64
  go_wp2_with fail
  all_goals (first | (go_ret; exact ⟨rfl, (by repeat (first | exact Below.refl _ _ | apply bGrow | apply bAlloc | apply Below.drew | apply bDrewN | apply bIter))⟩) | (exfalso; have := H.out; omega))
set_option maxHeartbeats 1000000 in
theorem LinkCheck_lens (w : World) (l : LinkV) (hn : linkNums l) (hl : ¬ linkLens l) : Calls Tryd.prog 64 #[l.val] w fun r w' => r = .returned (.int .i64 9) ∧ Below w.heap.size w w' := by
  have H := Lib.hid hl
  obtain ⟨⟨a1, a2⟩, ⟨a3, a4⟩, ⟨a5, a6⟩⟩ := hn
  clear hl
  unfold linkLens at H
  obtain ⟨e, n, sA, sc, s, qA, qc, q, h⟩ := l
  dsimp only at *
  go_enter Tryd.func64, Tryd.ntmps64
  go_wp2_with fail
  all_goals (first | (go_ret; exact ⟨rfl, (by repeat (first | exact Below.refl _ _ | apply bGrow | apply bAlloc | apply Below.drew | apply bDrewN | apply bIter))⟩) | (exfalso; have := H.out; omega))
end Go.Proofs.YtbmdepbmejnlkaaDoor
