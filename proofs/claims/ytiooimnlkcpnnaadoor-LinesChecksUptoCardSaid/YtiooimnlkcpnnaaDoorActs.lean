/-
  Contracts of lines.bare, lines.Check and the reference's ActFault.
-/
import Derived.Test.YtiooimnlkcpnnaaDoorRows
import Derived.Test.YtiooimnlkcpnnaaDoorCheck
import Derived.Test.YtiooimnlkcpnnaaDoorTree
import Derived.Test.YtiooimnlkcpnnaaDoorIn
import Derived.Test.YtiooimnlkcpnnaaDoorFlat
namespace Go.Proofs.YtiooimnlkcpnnaaDoor
open Go.ChangeShapes Go.WideShapes Go.ChangeAt Go.RowKit
set_option maxRecDepth 100000
/-- An act's numbers; its operation stands beside it. -/
structure ActN where
  k : Int
  n : Int
  tt : Int
  pick : Int
  keep : Int
  an : Int
  hd : Int
abbrev actV (a : ActN) (A : Option Addr) (m c : Nat) : Value := .agg #[.int .i64 a.k, .int .i64 a.n, .int .i64 a.tt, .int .i64 a.pick, .int .i64 a.keep, .slice A m c, .int .i64 a.an, .int .i64 a.hd]
/-- Has an act just what its kind has? -/
def bareOk (a : ActN) (m : Nat) : Prop := (a.k = 7 → a.n = 0) ∧ (¬ (4 ≤ a.k ∧ a.k ≤ 6) → a.tt = 0 ∧ a.pick = 0) ∧ (a.k ≠ 8 → a.keep = 0) ∧ (a.k ≠ 1 → m = 0) ∧ (a.k ≠ 3 → a.an = 0 ∧ a.hd = 0)
instance (a : ActN) (m : Nat) : Decidable (bareOk a m) := by
  unfold bareOk
  exact inferInstance
set_option maxHeartbeats 1000000 in
theorem bare_1 (w : World) (n tt pick keep an hd : Int) (A : Option Addr) (m c : Nat) : Calls Tryd.prog 73 #[actV ⟨1, n, tt, pick, keep, an, hd⟩ A m c] w fun r w' => r = .returned (.bool (decide (bareOk ⟨1, n, tt, pick, keep, an, hd⟩ m))) ∧ Below w.heap.size w w' := by
  generalize hG : decide (bareOk ⟨1, n, tt, pick, keep, an, hd⟩ m) = B
  have HG := Lib.hid hG
  clear hG
  go_enter Tryd.func73, Tryd.ntmps73
  go_wp2_with fail
  all_goals
    go_ret
    refine ⟨?_, (by repeat (first | exact Below.refl _ _ | apply bGrow | apply bAlloc | apply Below.drew | apply bDrewN | apply bIter))⟩
    rw [← HG.out]
    simp [bareOk, *]
set_option maxHeartbeats 1000000 in
theorem bare_2 (w : World) (n tt pick keep an hd : Int) (A : Option Addr) (m c : Nat) : Calls Tryd.prog 73 #[actV ⟨2, n, tt, pick, keep, an, hd⟩ A m c] w fun r w' => r = .returned (.bool (decide (bareOk ⟨2, n, tt, pick, keep, an, hd⟩ m))) ∧ Below w.heap.size w w' := by
  generalize hG : decide (bareOk ⟨2, n, tt, pick, keep, an, hd⟩ m) = B
  have HG := Lib.hid hG
  clear hG
  go_enter Tryd.func73, Tryd.ntmps73
  go_wp2_with fail
  all_goals
    go_ret
    refine ⟨?_, (by repeat (first | exact Below.refl _ _ | apply bGrow | apply bAlloc | apply Below.drew | apply bDrewN | apply bIter))⟩
    rw [← HG.out]
    simp [bareOk, *]
set_option maxHeartbeats 1000000 in
theorem bare_3 (w : World) (n tt pick keep an hd : Int) (A : Option Addr) (m c : Nat) : Calls Tryd.prog 73 #[actV ⟨3, n, tt, pick, keep, an, hd⟩ A m c] w fun r w' => r = .returned (.bool (decide (bareOk ⟨3, n, tt, pick, keep, an, hd⟩ m))) ∧ Below w.heap.size w w' := by
  generalize hG : decide (bareOk ⟨3, n, tt, pick, keep, an, hd⟩ m) = B
  have HG := Lib.hid hG
  clear hG
  go_enter Tryd.func73, Tryd.ntmps73
  go_wp2_with fail
  all_goals
    go_ret
    refine ⟨?_, (by repeat (first | exact Below.refl _ _ | apply bGrow | apply bAlloc | apply Below.drew | apply bDrewN | apply bIter))⟩
    rw [← HG.out]
    simp [bareOk, *]
set_option maxHeartbeats 1000000 in
theorem bare_4 (w : World) (n tt pick keep an hd : Int) (A : Option Addr) (m c : Nat) : Calls Tryd.prog 73 #[actV ⟨4, n, tt, pick, keep, an, hd⟩ A m c] w fun r w' => r = .returned (.bool (decide (bareOk ⟨4, n, tt, pick, keep, an, hd⟩ m))) ∧ Below w.heap.size w w' := by
  generalize hG : decide (bareOk ⟨4, n, tt, pick, keep, an, hd⟩ m) = B
  have HG := Lib.hid hG
  clear hG
  go_enter Tryd.func73, Tryd.ntmps73
  go_wp2_with fail
  all_goals
    go_ret
    refine ⟨?_, (by repeat (first | exact Below.refl _ _ | apply bGrow | apply bAlloc | apply Below.drew | apply bDrewN | apply bIter))⟩
    rw [← HG.out]
    simp [bareOk, *]
set_option maxHeartbeats 1000000 in
theorem bare_5 (w : World) (n tt pick keep an hd : Int) (A : Option Addr) (m c : Nat) : Calls Tryd.prog 73 #[actV ⟨5, n, tt, pick, keep, an, hd⟩ A m c] w fun r w' => r = .returned (.bool (decide (bareOk ⟨5, n, tt, pick, keep, an, hd⟩ m))) ∧ Below w.heap.size w w' := by
  generalize hG : decide (bareOk ⟨5, n, tt, pick, keep, an, hd⟩ m) = B
  have HG := Lib.hid hG
  clear hG
  go_enter Tryd.func73, Tryd.ntmps73
  go_wp2_with fail
  all_goals
    go_ret
    refine ⟨?_, (by repeat (first | exact Below.refl _ _ | apply bGrow | apply bAlloc | apply Below.drew | apply bDrewN | apply bIter))⟩
    rw [← HG.out]
    simp [bareOk, *]
set_option maxHeartbeats 1000000 in
theorem bare_6 (w : World) (n tt pick keep an hd : Int) (A : Option Addr) (m c : Nat) : Calls Tryd.prog 73 #[actV ⟨6, n, tt, pick, keep, an, hd⟩ A m c] w fun r w' => r = .returned (.bool (decide (bareOk ⟨6, n, tt, pick, keep, an, hd⟩ m))) ∧ Below w.heap.size w w' := by
  generalize hG : decide (bareOk ⟨6, n, tt, pick, keep, an, hd⟩ m) = B
  have HG := Lib.hid hG
  clear hG
  go_enter Tryd.func73, Tryd.ntmps73
  go_wp2_with fail
  all_goals
    go_ret
    refine ⟨?_, (by repeat (first | exact Below.refl _ _ | apply bGrow | apply bAlloc | apply Below.drew | apply bDrewN | apply bIter))⟩
    rw [← HG.out]
    simp [bareOk, *]
set_option maxHeartbeats 1000000 in
theorem bare_7 (w : World) (n tt pick keep an hd : Int) (A : Option Addr) (m c : Nat) : Calls Tryd.prog 73 #[actV ⟨7, n, tt, pick, keep, an, hd⟩ A m c] w fun r w' => r = .returned (.bool (decide (bareOk ⟨7, n, tt, pick, keep, an, hd⟩ m))) ∧ Below w.heap.size w w' := by
  generalize hG : decide (bareOk ⟨7, n, tt, pick, keep, an, hd⟩ m) = B
  have HG := Lib.hid hG
  clear hG
  go_enter Tryd.func73, Tryd.ntmps73
  go_wp2_with fail
  all_goals
    go_ret
    refine ⟨?_, (by repeat (first | exact Below.refl _ _ | apply bGrow | apply bAlloc | apply Below.drew | apply bDrewN | apply bIter))⟩
    rw [← HG.out]
    simp [bareOk, *]
set_option maxHeartbeats 1000000 in
theorem bare_8 (w : World) (n tt pick keep an hd : Int) (A : Option Addr) (m c : Nat) : Calls Tryd.prog 73 #[actV ⟨8, n, tt, pick, keep, an, hd⟩ A m c] w fun r w' => r = .returned (.bool (decide (bareOk ⟨8, n, tt, pick, keep, an, hd⟩ m))) ∧ Below w.heap.size w w' := by
  generalize hG : decide (bareOk ⟨8, n, tt, pick, keep, an, hd⟩ m) = B
  have HG := Lib.hid hG
  clear hG
  go_enter Tryd.func73, Tryd.ntmps73
  go_wp2_with fail
  all_goals
    go_ret
    refine ⟨?_, (by repeat (first | exact Below.refl _ _ | apply bGrow | apply bAlloc | apply Below.drew | apply bDrewN | apply bIter))⟩
    rw [← HG.out]
    simp [bareOk, *]
set_option maxHeartbeats 1000000 in
theorem bare_9 (w : World) (n tt pick keep an hd : Int) (A : Option Addr) (m c : Nat) : Calls Tryd.prog 73 #[actV ⟨9, n, tt, pick, keep, an, hd⟩ A m c] w fun r w' => r = .returned (.bool (decide (bareOk ⟨9, n, tt, pick, keep, an, hd⟩ m))) ∧ Below w.heap.size w w' := by
  generalize hG : decide (bareOk ⟨9, n, tt, pick, keep, an, hd⟩ m) = B
  have HG := Lib.hid hG
  clear hG
  go_enter Tryd.func73, Tryd.ntmps73
  go_wp2_with fail
  all_goals
    go_ret
    refine ⟨?_, (by repeat (first | exact Below.refl _ _ | apply bGrow | apply bAlloc | apply Below.drew | apply bDrewN | apply bIter))⟩
    rw [← HG.out]
    simp [bareOk, *]
theorem bare_c (w : World) (a : ActN) (A : Option Addr) (m c : Nat) (h1 : 1 ≤ a.k) (h2 : a.k ≤ 9) : Calls Tryd.prog 73 #[actV a A m c] w fun r w' => r = .returned (.bool (decide (bareOk a m))) ∧ Below w.heap.size w w' := by
  obtain ⟨k, n, tt, pick, keep, an, hd⟩ := a
  dsimp only at h1 h2
  have hk : k = 1 ∨ k = 2 ∨ k = 3 ∨ k = 4 ∨ k = 5 ∨ k = 6 ∨ k = 7 ∨ k = 8 ∨ k = 9 := by omega
  rcases hk with rfl | rfl | rfl | rfl | rfl | rfl | rfl | rfl | rfl
  · exact bare_1 w n tt pick keep an hd A m c
  · exact bare_2 w n tt pick keep an hd A m c
  · exact bare_3 w n tt pick keep an hd A m c
  · exact bare_4 w n tt pick keep an hd A m c
  · exact bare_5 w n tt pick keep an hd A m c
  · exact bare_6 w n tt pick keep an hd A m c
  · exact bare_7 w n tt pick keep an hd A m c
  · exact bare_8 w n tt pick keep an hd A m c
  · exact bare_9 w n tt pick keep an hd A m c
end Go.Proofs.YtiooimnlkcpnnaaDoor
