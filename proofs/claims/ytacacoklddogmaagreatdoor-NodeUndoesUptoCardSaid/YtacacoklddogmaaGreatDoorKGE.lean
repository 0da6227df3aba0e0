/- A part of the proof of NodeUndoes. -/
import Derived.Test.YtacacoklddogmaaGreatDoorKGD
namespace Go.Proofs.YtacacoklddogmaaGreatDoor
set_option maxHeartbeats 4000000
open Go.ChangeShapes Go.WideShapes Go.ChangeAt Go.RowKit Go.Joins Go.Deep
set_option maxRecDepth 100000
end Go.Proofs.YtacacoklddogmaaGreatDoor
namespace Go.Proofs.YtacacoklddogmaaGreatDoor
set_option maxHeartbeats 4000000
open Go.ChangeShapes Go.WideShapes Go.ChangeAt Go.RowKit
set_option maxRecDepth 100000
theorem dr_ {zs : List Int} {n : NodeV} (h : nodeFault zs n = 0) : nodeMay zs n := by
 unfold nodeFault at h
 split at h
 · exact absurd h (by assumption)
 · split at h
   · assumption
   · cases h
structure TickAt (w : World) (R : Nat) (nv : Array Value) (W : World) : Prop where
 nd : W.heap[w.heap.size]? = some (.cells nv 28 (0, 0))
 r : W.heap[R]? = some (.cells z_ 35 (0, 0))
 b : Below w.heap.size w W
 hr : w.heap.size < R
 rz : R < W.heap.size
theorem TickAt.later {w W W' : World} {R : Nat} {nv : Array Value} (k : TickAt w R nv W) (hb : Below W.heap.size W W') : TickAt w R nv W' := by
 have h1 := k.hr
 have h2 := k.rz
 have h3 := hb.size
 exact ⟨(hb.block _ (by omega)).trans k.nd, (hb.block _ h2).trans k.r, bThen k.b hb, h1, by omega⟩
theorem TickAt.new (w : World) (nv : Array Value) : TickAt w (w.heap.size + 1) nv ((w.alloc (.cells nv 28)).alloc (.cells z_ 35)) := by
 refine ⟨(q_ _ _ _ (by simp)).trans (World.alloc_heap_new _ _), ?_, bAlloc bA_ _, by omega, by simp⟩
 have := World.alloc_heap_new (w.alloc (.cells nv 28)) (.cells z_ 35)
 rwa [World.size_alloc] at this
theorem TickAt.turned {w W W' : World} {R : Nat} {nv : Array Value} (k : TickAt w R nv W) {X : Nat} (hX : R < X) (ht : Turned W W' X none) : TickAt w R nv W' := by
 have h1 := k.hr
 have h2 := k.rz
 have h3 := ht.size
 have h4 := k.b.size
 exact ⟨(ht.block _ (by omega) (by omega) (by simp)).trans k.nd, (ht.block _ h2 (by omega) (by simp)).trans k.r, k.b.trans (ht.below (by omega) (by simp) h4), h1, by omega⟩
def RetTurnS (w : World) (D : EdD) (er : Int) (e : Ending) (w' : World) : Prop :=
 ∃ s : EdV, e = .returned (.tuple #[.agg (turnCells s.n (.slice s.A D.L.length s.c) (.slice s.RA D.R.length s.rc)), .int .i64 er]) ∧ s.d = D ∧ s.n.InS (fun b => w.heap.size ≤ b ∧ b < w'.heap.size) w' ∧ PostsOwn w' w.heap.size s.A s.c s.L ∧ RecsOwn w' w.heap.size s.RA s.rc s.RL ∧ Below w.heap.size w w'
theorem RetTurnR.s {w w' : World} {D : EdD} {er : Int} {e : Ending} (h : RetTurnR w D er e w') : RetTurnS w D er e w' := by
 obtain ⟨s, rfl, rfl, h3, h4, h5, h6⟩ := h
 exact ⟨s, by simp, rfl, h3, h4, h5, h6⟩
section
variable (w : World) (T : Option Addr) (N Nc : Nat) (zs : List Int) (n : NodeV) (hT : Tabs w) (hi : n.In w) (hm : n.Small) (hz : Sl (· < w.heap.size) w 1 T N (zs.map (Value.int .i64))) (hN : N ≤ 9223372036854775807) (pA : Option Addr) (pc : Nat) (ps : List PartD) (hop : OpIn (· < w.heap.size) w pA ps) (hpl : ps.length ≤ 1048576) (hpt : ∀ p ∈ ps, p.text.size ≤ 1048576)
include hT hi hm hz hN hop hpl hpt
end
theorem NodeFree.inS {w : World} {base : Nat} {n : NodeV} (h : NodeFree w base n) : n.InS (fun b => base ≤ b ∧ b < w.heap.size) w :=
 ⟨Sl.of_own _ h.srow, fun x hx => (h.side x hx).moved fun _ k => ⟨k.1, rfl⟩, ⟨Sl.of_own _ h.urow, fun o ho => (h.undo o ho).moved fun _ k => ⟨k.1, rfl⟩⟩, Sl.of_own _ h.mrow⟩
structure TurnAt (W : World) (B : Nat) (D : EdD) (s : EdV) : Prop where
 blk : W.heap[B]? = some (.cells (turnCells s.n (.slice s.A D.L.length s.c) (.slice s.RA D.R.length s.rc)) 35 (0, 0))
 d : s.d = D
 n : s.n.In W
 p : PostsIn W s.A s.L
 r : RecsIn W s.RA s.RL
theorem TurnAt.later {W W' : World} {B : Nat} {D : EdD} {s : EdV} (h : TurnAt W B D s) (hb : Below W.heap.size W W') : TurnAt W' B D s :=
 ⟨(hb.block _ (Array.getElem?_eq_some_iff.1 h.blk).1).trans h.blk, h.d, h.n.later hb, h.p.later hb, h.r.later hb⟩
theorem mb_ {W : World} {base : Nat} {D : EdD} {s : EdV} (hd : s.d = D) (hin : s.n.InS (fun b => base ≤ b ∧ b < W.heap.size) W) (hp : PostsOwn W base s.A s.c s.L) (hr : RecsOwn W base s.RA s.rc s.RL) :
 TurnAt (W.alloc (.cells (turnCells s.n (.slice s.A D.L.length s.c) (.slice s.RA D.R.length s.rc)) 35)) W.heap.size D s :=
 ⟨World.alloc_heap_new _ _, hd, (hin.in_ (fun _ hb => hb.2)).later bA_, hp.in_.later bA_, hr.in_.later bA_⟩
end Go.Proofs.YtacacoklddogmaaGreatDoor
