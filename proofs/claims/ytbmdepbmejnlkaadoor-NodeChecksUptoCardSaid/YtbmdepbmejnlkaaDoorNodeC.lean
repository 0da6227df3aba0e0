/-
  Contract of node.Check: what it refuses first.
-/
import Derived.Test.YtbmdepbmejnlkaaDoorRows
import Derived.Test.YtbmdepbmejnlkaaDoorSide
import Derived.Test.YtbmdepbmejnlkaaDoorNeigh
import Derived.Test.YtbmdepbmejnlkaaDoorUndo
namespace Go.Proofs.YtbmdepbmejnlkaaDoor
open Go.ChangeShapes Go.WideShapes Go.ChangeAt Go.RowKit
set_option maxRecDepth 100000
/-- The block of a node that was handed in. -/
structure OneAt (w : World) (n : NodeV) (W : World) : Prop where
  nd : NodeAt W w.heap.size n
  b : Below w.heap.size w W
theorem OneAt.new (w : World) (n : NodeV) : OneAt w n (w.alloc (.cells #[.int .i64 n.me, .int .i64 n.ep, .int .i64 n.up, .bool n.rd, .string n.t, .slice n.sA n.S.length n.sc, .slice n.uA n.U.length n.uc, .slice n.mA n.M.length n.mc] 28)) := ⟨World.alloc_heap_new _ _, bAlloc (Below.refl _ _) _⟩
theorem OneAt.later {w W W' : World} {n : NodeV} (k : OneAt w n W) (hb : Below W.heap.size W W') : OneAt w n W' :=
  ⟨(hb.block _ (Array.getElem?_eq_some_iff.1 k.nd).1).trans k.nd, bThen k.b hb⟩
set_option maxHeartbeats 1000000 in
theorem NodeCheck_tree (w : World) (T : Option Addr) (N Nc : Nat) (zs : List Int) (n : NodeV) (_HT : Hid (Tabs w)) (_HI : Hid (n.In w)) (_HZ : Hid (Sl (· < w.heap.size) w 1 T N (zs.map (Value.int .i64)))) (_hN : N ≤ 9223372036854775807) (er : Int) (_he : (er != 0) = true) (HC : Hid (∀ W, Below w.heap.size w W → Calls Tryd.prog 24 #[.slice T N Nc] W fun e w' => e = .returned (.int .i64 er) ∧ W = w')) :
    Calls Tryd.prog 8 #[.slice T N Nc, n.val] w fun r w' => r = .returned (.int .i64 er) ∧ Below w.heap.size w w' := by
  have HA := Lib.hid (OneAt.new w n)
  obtain ⟨WA, hWA⟩ : ∃ WA, WA = w.alloc (.cells #[.int .i64 n.me, .int .i64 n.ep, .int .i64 n.up, .bool n.rd, .string n.t, .slice n.sA n.S.length n.sc, .slice n.uA n.U.length n.uc, .slice n.mA n.M.length n.mc] 28) := ⟨_, rfl⟩
  rw [← hWA] at HA
  have HW := Lib.hid hWA.symm
  clear hWA
  go_enter Tryd.func8, Tryd.ntmps8
  go_wp2_with fail
  rw [HW.out]
  refine (HC.out _ HA.out.b).mono ?_
  rintro e w1 ⟨rfl, rfl⟩
  obtain ⟨n0, n1, n2, n3, n4, n5, n6, n7, nz⟩ := node_cell HA.out.nd
  go_wp2_with fail
  go_ret
  exact ⟨rfl, HA.out.b⟩
set_option maxHeartbeats 1000000 in
theorem NodeCheck_nums (w : World) (T : Option Addr) (N Nc : Nat) (zs : List Int) (n : NodeV) (HT : Hid (Tabs w)) (_HI : Hid (n.In w)) (_HZ : Hid (Sl (· < w.heap.size) w 1 T N (zs.map (Value.int .i64)))) (_hN : N ≤ 9223372036854775807) (er : Int) (H : Hid (¬ ((0 ≤ n.me ∧ n.me < N) ∧ (1 ≤ n.ep ∧ n.ep < 1048576) ∧ (0 ≤ n.up ∧ n.up ≤ 1048576) ∧ ¬ (n.me = 0 ∧ 0 < n.up) ∧ er = 0))) (HC : Hid (∀ W, Below w.heap.size w W → Calls Tryd.prog 24 #[.slice T N Nc] W fun e w' => e = .returned (.int .i64 0) ∧ W = w')) (HX : Hid (∀ W, Tabs W → Calls Tryd.prog 25 #[.string n.t] W fun e w' => e = .returned (.int .i64 er) ∧ Below W.heap.size W w')) :
    Calls Tryd.prog 8 #[.slice T N Nc, n.val] w fun r w' => r = .returned (.int .i64 9) ∧ Below w.heap.size w w' := by
  have HA := Lib.hid (OneAt.new w n)
  obtain ⟨WA, hWA⟩ : ∃ WA, WA = w.alloc (.cells #[.int .i64 n.me, .int .i64 n.ep, .int .i64 n.up, .bool n.rd, .string n.t, .slice n.sA n.S.length n.sc, .slice n.uA n.U.length n.uc, .slice n.mA n.M.length n.mc] 28) := ⟨_, rfl⟩
  rw [← hWA] at HA
  have HW := Lib.hid hWA.symm
  clear hWA
  go_enter Tryd.func8, Tryd.ntmps8
  go_wp2_with fail
  rw [HW.out]
  refine (HC.out _ HA.out.b).mono ?_
  rintro e w1 ⟨rfl, rfl⟩
  obtain ⟨n0, n1, n2, n3, n4, n5, n6, n7, nz⟩ := node_cell HA.out.nd
  go_wp2_with fail
  all_goals (first
    | (go_ret; exact ⟨rfl, HA.out.b⟩)
    | (refine (HX.out _ (HT.out.later HA.out.b)).mono ?_
       rintro e w2 ⟨rfl, hb2⟩
       have H2 := Lib.hid (HA.out.later hb2)
       clear n0 n1 n2 n3 n4 n5 n6 n7 nz
       obtain ⟨n0, n1, n2, n3, n4, n5, n6, n7, nz⟩ := node_cell H2.out.nd
       clear hb2
       go_wp2_with fail
       all_goals (first
         | (go_ret; exact ⟨rfl, H2.out.b⟩)
         | (exfalso; have := H.out; first | omega | (simp_all; done) | (simp_all; omega)))))
end Go.Proofs.YtbmdepbmejnlkaaDoor
