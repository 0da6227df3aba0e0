/- A part of the proof of NodeUndoes. -/
import Derived.Test.YtacacoklddogmaaGreatDoorKBL
namespace Go.Proofs.YtacacoklddogmaaGreatDoor
set_option maxHeartbeats 4000000
open Go.ChangeShapes Go.WideShapes Go.ChangeAt Go.RowKit
set_option maxRecDepth 100000
theorem ct_ (S : Nat → Prop) (w : World) : zeroN.InS S w := ⟨Sl.nil, (by intro x hx; cases hx), ⟨Sl.nil, (by intro x hx; cases hx)⟩, Sl.nil⟩
theorem bo_ (w : World) (X : Nat) : Calls Tryz.prog 21 #[.pointer (some ⟨X, 0, none⟩)] w fun e w' => e = .returned (.pointer (some ⟨X, 0, none⟩)) ∧ w = w' := by
 go_enter Tryz.func21, Tryz.ntmps21
 go_wp2
 go_ret
 simp
theorem cu_ {w : World} {R : Nat} {z0 z1 z2 z3 z4 z5 z6 z7 z8 z9 : Value} {t : TypeId} (h : w.heap[R]? = some (.cells #[z0, z1, z2, z3, z4, z5, z6, z7, z8, z9] t (0, 0))) (v0 v1 v2 v3 v4 v5 v6 v7 v8 v9 : Value) :
 ((((((((((w.setCell ⟨R, 0, none⟩ v0).setCell ⟨R, 1, none⟩ v1).setCell ⟨R, 2, none⟩ v2).setCell ⟨R, 3, none⟩ v3).setCell ⟨R, 4, none⟩ v4).setCell ⟨R, 5, none⟩ v5).setCell ⟨R, 6, none⟩ v6).setCell ⟨R, 7, none⟩ v7).setCell ⟨R, 8, none⟩ v8).setCell ⟨R, 9, none⟩ v9).heap[R]? = some (.cells #[v0, v1, v2, v3, v4, v5, v6, v7, v8, v9] t (0, 0)) := by
 have h0 : (w.setCell ⟨R, 0, none⟩ v0).heap[R]? = some (.cells #[v0, z1, z2, z3, z4, z5, z6, z7, z8, z9] t (0, 0)) := e_ 0 v0 h
 generalize w.setCell ⟨R, 0, none⟩ v0 = w0 at *
 have h1 : (w0.setCell ⟨R, 1, none⟩ v1).heap[R]? = some (.cells #[v0, v1, z2, z3, z4, z5, z6, z7, z8, z9] t (0, 0)) := e_ 1 v1 h0
 generalize w0.setCell ⟨R, 1, none⟩ v1 = w1 at *
 have h2 : (w1.setCell ⟨R, 2, none⟩ v2).heap[R]? = some (.cells #[v0, v1, v2, z3, z4, z5, z6, z7, z8, z9] t (0, 0)) := e_ 2 v2 h1
 generalize w1.setCell ⟨R, 2, none⟩ v2 = w2 at *
 have h3 : (w2.setCell ⟨R, 3, none⟩ v3).heap[R]? = some (.cells #[v0, v1, v2, v3, z4, z5, z6, z7, z8, z9] t (0, 0)) := e_ 3 v3 h2
 generalize w2.setCell ⟨R, 3, none⟩ v3 = w3 at *
 have h4 : (w3.setCell ⟨R, 4, none⟩ v4).heap[R]? = some (.cells #[v0, v1, v2, v3, v4, z5, z6, z7, z8, z9] t (0, 0)) := e_ 4 v4 h3
 generalize w3.setCell ⟨R, 4, none⟩ v4 = w4 at *
 have h5 : (w4.setCell ⟨R, 5, none⟩ v5).heap[R]? = some (.cells #[v0, v1, v2, v3, v4, v5, z6, z7, z8, z9] t (0, 0)) := e_ 5 v5 h4
 generalize w4.setCell ⟨R, 5, none⟩ v5 = w5 at *
 have h6 : (w5.setCell ⟨R, 6, none⟩ v6).heap[R]? = some (.cells #[v0, v1, v2, v3, v4, v5, v6, z7, z8, z9] t (0, 0)) := e_ 6 v6 h5
 generalize w5.setCell ⟨R, 6, none⟩ v6 = w6 at *
 have h7 : (w6.setCell ⟨R, 7, none⟩ v7).heap[R]? = some (.cells #[v0, v1, v2, v3, v4, v5, v6, v7, z8, z9] t (0, 0)) := e_ 7 v7 h6
 generalize w6.setCell ⟨R, 7, none⟩ v7 = w7 at *
 have h8 : (w7.setCell ⟨R, 8, none⟩ v8).heap[R]? = some (.cells #[v0, v1, v2, v3, v4, v5, v6, v7, v8, z9] t (0, 0)) := e_ 8 v8 h7
 generalize w7.setCell ⟨R, 8, none⟩ v8 = w8 at *
 exact e_ 9 v9 h8
end Go.Proofs.YtacacoklddogmaaGreatDoor
