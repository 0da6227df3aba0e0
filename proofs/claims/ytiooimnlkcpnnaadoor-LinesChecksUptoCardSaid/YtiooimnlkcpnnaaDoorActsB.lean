/-
  Contract of the reference's ActFault: its last branch, kind by kind; and of lines.Check and ActFault, joined.
-/
import Derived.Test.YtiooimnlkcpnnaaDoorRows
import Derived.Test.YtiooimnlkcpnnaaDoorActsC
namespace Go.Proofs.YtiooimnlkcpnnaaDoor
open Go.ChangeShapes Go.WideShapes Go.ChangeAt Go.RowKit
set_option maxRecDepth 100000
set_option maxHeartbeats 2000000 in
theorem Act_b1 (w : World) (T : Option Addr) (N Nc : Nat) (n tt pick keep an hd : Int) (A : Option Addr) (m c : Nat) (b0 : 0 ≤ n) (d0 : n ≤ (N : Int) - 1) (b1 : 0 ≤ tt) (d1 : tt ≤ (N : Int) - 1) (b2 : 0 ≤ pick) (c2 : pick ≤ 1048576) (b3 : 0 ≤ keep) (c3 : keep ≤ 8388608) (b4 : 0 ≤ an) (c4 : an ≤ 4000) (b5 : 0 ≤ hd) (c5 : hd ≤ 4000) (_hN : 1 ≤ N ∧ N ≤ 7)
    (HO : Hid (∀ W, Below w.heap.size w W → Calls Tryd.prog 68 #[.slice A m c] W fun e w' => e = .returned (.int .i64 0) ∧ Below W.heap.size W w')) (HC : Hid (∀ W, Below w.heap.size w W → Calls Tryd.prog 74 #[.slice T N Nc] W fun e w' => e = .returned (.int .i64 0) ∧ W = w')) :
    Calls Tryd.prog 22 #[.slice T N Nc, actV ⟨1, n, tt, pick, keep, an, hd⟩ A m c] w fun r w' => r = .returned (.int .i64 (if bareOk ⟨1, n, tt, pick, keep, an, hd⟩ m then 0 else 4)) ∧ Below w.heap.size w w' := by
  generalize hG : (if bareOk ⟨1, n, tt, pick, keep, an, hd⟩ m then (0 : Int) else 4) = Z
  have HG := Lib.hid hG
  clear hG
  go_enter Tryd.func22, Tryd.ntmps22
  go_wp2_with fail
  refine (HC.out _ (by repeat (first | exact Below.refl _ _ | apply bGrow | apply bAlloc | apply Below.drew | apply bDrewN | apply bIter))).mono ?_
  rintro r wx ⟨rfl, rfl⟩
  go_wp2_with fail
  refine (In_yes _ _ _ _ (by decide) (by decide)).mono ?_
  rintro r wx ⟨rfl, rfl⟩
  go_wp2_with fail
  refine (In_yes _ _ _ _ b0 d0).mono ?_
  rintro r wx ⟨rfl, rfl⟩
  go_wp2_with fail
  refine (In_yes _ _ _ _ b1 d1).mono ?_
  rintro r wx ⟨rfl, rfl⟩
  go_wp2_with fail
  refine (In_yes _ _ _ _ b2 c2).mono ?_
  rintro r wx ⟨rfl, rfl⟩
  go_wp2_with fail
  refine (In_yes _ _ _ _ b3 c3).mono ?_
  rintro r wx ⟨rfl, rfl⟩
  go_wp2_with fail
  refine (In_yes _ _ _ _ b4 c4).mono ?_
  rintro r wx ⟨rfl, rfl⟩
  go_wp2_with fail
  refine (In_yes _ _ _ _ b5 c5).mono ?_
  rintro r wx ⟨rfl, rfl⟩
  go_wp2_with fail
  refine (HO.out _ (by repeat (first | exact Below.refl _ _ | apply bGrow | apply bAlloc | apply Below.drew | apply bDrewN | apply bIter))).mono ?_
  rintro r w1 ⟨rfl, hb1⟩
  have x0 := box_at' hb1 0
  have x1 := box_at' hb1 1
  have x2 := box_at' hb1 2
  have x3 := box_at' hb1 3
  have x4 := box_at' hb1 4
  have x5 := box_at' hb1 5
  have x6 := box_at' hb1 6
  have x7 := box_at' hb1 7
  simp at x0 x1 x2 x3 x4 x5 x6 x7
  have HB := Lib.hid (box_below' hb1)
  clear hb1
  go_wp2_with fail
  refine (In_no _ _ _ _ (by decide)).mono ?_
  rintro r wx ⟨rfl, rfl⟩
  go_wp2_with fail
  all_goals
    go_ret
    refine ⟨?_, HB.out⟩
    rw [← HG.out]
    simp [bareOk, *]
set_option maxHeartbeats 2000000 in
theorem Act_b2 (w : World) (T : Option Addr) (N Nc : Nat) (n tt pick keep an hd : Int) (A : Option Addr) (m c : Nat) (b0 : 0 ≤ n) (d0 : n ≤ (N : Int) - 1) (b1 : 0 ≤ tt) (d1 : tt ≤ (N : Int) - 1) (b2 : 0 ≤ pick) (c2 : pick ≤ 1048576) (b3 : 0 ≤ keep) (c3 : keep ≤ 8388608) (b4 : 0 ≤ an) (c4 : an ≤ 4000) (b5 : 0 ≤ hd) (c5 : hd ≤ 4000) (_hN : 1 ≤ N ∧ N ≤ 7)
    (HO : Hid (∀ W, Below w.heap.size w W → Calls Tryd.prog 68 #[.slice A m c] W fun e w' => e = .returned (.int .i64 0) ∧ Below W.heap.size W w')) (HC : Hid (∀ W, Below w.heap.size w W → Calls Tryd.prog 74 #[.slice T N Nc] W fun e w' => e = .returned (.int .i64 0) ∧ W = w')) :
    Calls Tryd.prog 22 #[.slice T N Nc, actV ⟨2, n, tt, pick, keep, an, hd⟩ A m c] w fun r w' => r = .returned (.int .i64 (if bareOk ⟨2, n, tt, pick, keep, an, hd⟩ m then 0 else 4)) ∧ Below w.heap.size w w' := by
  generalize hG : (if bareOk ⟨2, n, tt, pick, keep, an, hd⟩ m then (0 : Int) else 4) = Z
  have HG := Lib.hid hG
  clear hG
  go_enter Tryd.func22, Tryd.ntmps22
  go_wp2_with fail
  refine (HC.out _ (by repeat (first | exact Below.refl _ _ | apply bGrow | apply bAlloc | apply Below.drew | apply bDrewN | apply bIter))).mono ?_
  rintro r wx ⟨rfl, rfl⟩
  go_wp2_with fail
  refine (In_yes _ _ _ _ (by decide) (by decide)).mono ?_
  rintro r wx ⟨rfl, rfl⟩
  go_wp2_with fail
  refine (In_yes _ _ _ _ b0 d0).mono ?_
  rintro r wx ⟨rfl, rfl⟩
  go_wp2_with fail
  refine (In_yes _ _ _ _ b1 d1).mono ?_
  rintro r wx ⟨rfl, rfl⟩
  go_wp2_with fail
  refine (In_yes _ _ _ _ b2 c2).mono ?_
  rintro r wx ⟨rfl, rfl⟩
  go_wp2_with fail
  refine (In_yes _ _ _ _ b3 c3).mono ?_
  rintro r wx ⟨rfl, rfl⟩
  go_wp2_with fail
  refine (In_yes _ _ _ _ b4 c4).mono ?_
  rintro r wx ⟨rfl, rfl⟩
  go_wp2_with fail
  refine (In_yes _ _ _ _ b5 c5).mono ?_
  rintro r wx ⟨rfl, rfl⟩
  go_wp2_with fail
  refine (HO.out _ (by repeat (first | exact Below.refl _ _ | apply bGrow | apply bAlloc | apply Below.drew | apply bDrewN | apply bIter))).mono ?_
  rintro r w1 ⟨rfl, hb1⟩
  have x0 := box_at' hb1 0
  have x1 := box_at' hb1 1
  have x2 := box_at' hb1 2
  have x3 := box_at' hb1 3
  have x4 := box_at' hb1 4
  have x5 := box_at' hb1 5
  have x6 := box_at' hb1 6
  have x7 := box_at' hb1 7
  simp at x0 x1 x2 x3 x4 x5 x6 x7
  have HB := Lib.hid (box_below' hb1)
  clear hb1
  go_wp2_with fail
  refine (In_no _ _ _ _ (by decide)).mono ?_
  rintro r wx ⟨rfl, rfl⟩
  go_wp2_with fail
  all_goals
    go_ret
    refine ⟨?_, HB.out⟩
    rw [← HG.out]
    simp [bareOk, *]
set_option maxHeartbeats 2000000 in
theorem Act_b3 (w : World) (T : Option Addr) (N Nc : Nat) (n tt pick keep an hd : Int) (A : Option Addr) (m c : Nat) (b0 : 0 ≤ n) (d0 : n ≤ (N : Int) - 1) (b1 : 0 ≤ tt) (d1 : tt ≤ (N : Int) - 1) (b2 : 0 ≤ pick) (c2 : pick ≤ 1048576) (b3 : 0 ≤ keep) (c3 : keep ≤ 8388608) (b4 : 0 ≤ an) (c4 : an ≤ 4000) (b5 : 0 ≤ hd) (c5 : hd ≤ 4000) (_hN : 1 ≤ N ∧ N ≤ 7)
    (HO : Hid (∀ W, Below w.heap.size w W → Calls Tryd.prog 68 #[.slice A m c] W fun e w' => e = .returned (.int .i64 0) ∧ Below W.heap.size W w')) (HC : Hid (∀ W, Below w.heap.size w W → Calls Tryd.prog 74 #[.slice T N Nc] W fun e w' => e = .returned (.int .i64 0) ∧ W = w')) :
    Calls Tryd.prog 22 #[.slice T N Nc, actV ⟨3, n, tt, pick, keep, an, hd⟩ A m c] w fun r w' => r = .returned (.int .i64 (if bareOk ⟨3, n, tt, pick, keep, an, hd⟩ m then 0 else 4)) ∧ Below w.heap.size w w' := by
  generalize hG : (if bareOk ⟨3, n, tt, pick, keep, an, hd⟩ m then (0 : Int) else 4) = Z
  have HG := Lib.hid hG
  clear hG
  go_enter Tryd.func22, Tryd.ntmps22
  go_wp2_with fail
  refine (HC.out _ (by repeat (first | exact Below.refl _ _ | apply bGrow | apply bAlloc | apply Below.drew | apply bDrewN | apply bIter))).mono ?_
  rintro r wx ⟨rfl, rfl⟩
  go_wp2_with fail
  refine (In_yes _ _ _ _ (by decide) (by decide)).mono ?_
  rintro r wx ⟨rfl, rfl⟩
  go_wp2_with fail
  refine (In_yes _ _ _ _ b0 d0).mono ?_
  rintro r wx ⟨rfl, rfl⟩
  go_wp2_with fail
  refine (In_yes _ _ _ _ b1 d1).mono ?_
  rintro r wx ⟨rfl, rfl⟩
  go_wp2_with fail
  refine (In_yes _ _ _ _ b2 c2).mono ?_
  rintro r wx ⟨rfl, rfl⟩
  go_wp2_with fail
  refine (In_yes _ _ _ _ b3 c3).mono ?_
  rintro r wx ⟨rfl, rfl⟩
  go_wp2_with fail
  refine (In_yes _ _ _ _ b4 c4).mono ?_
  rintro r wx ⟨rfl, rfl⟩
  go_wp2_with fail
  refine (In_yes _ _ _ _ b5 c5).mono ?_
  rintro r wx ⟨rfl, rfl⟩
  go_wp2_with fail
  refine (HO.out _ (by repeat (first | exact Below.refl _ _ | apply bGrow | apply bAlloc | apply Below.drew | apply bDrewN | apply bIter))).mono ?_
  rintro r w1 ⟨rfl, hb1⟩
  have x0 := box_at' hb1 0
  have x1 := box_at' hb1 1
  have x2 := box_at' hb1 2
  have x3 := box_at' hb1 3
  have x4 := box_at' hb1 4
  have x5 := box_at' hb1 5
  have x6 := box_at' hb1 6
  have x7 := box_at' hb1 7
  simp at x0 x1 x2 x3 x4 x5 x6 x7
  have HB := Lib.hid (box_below' hb1)
  clear hb1
  go_wp2_with fail
  refine (In_no _ _ _ _ (by decide)).mono ?_
  rintro r wx ⟨rfl, rfl⟩
  go_wp2_with fail
  all_goals
    go_ret
    refine ⟨?_, HB.out⟩
    rw [← HG.out]
    simp [bareOk, *]
set_option maxHeartbeats 2000000 in
theorem Act_b4 (w : World) (T : Option Addr) (N Nc : Nat) (n tt pick keep an hd : Int) (A : Option Addr) (m c : Nat) (b0 : 0 ≤ n) (d0 : n ≤ (N : Int) - 1) (b1 : 0 ≤ tt) (d1 : tt ≤ (N : Int) - 1) (b2 : 0 ≤ pick) (c2 : pick ≤ 1048576) (b3 : 0 ≤ keep) (c3 : keep ≤ 8388608) (b4 : 0 ≤ an) (c4 : an ≤ 4000) (b5 : 0 ≤ hd) (c5 : hd ≤ 4000) (_hN : 1 ≤ N ∧ N ≤ 7)
    (HO : Hid (∀ W, Below w.heap.size w W → Calls Tryd.prog 68 #[.slice A m c] W fun e w' => e = .returned (.int .i64 0) ∧ Below W.heap.size W w')) (HC : Hid (∀ W, Below w.heap.size w W → Calls Tryd.prog 74 #[.slice T N Nc] W fun e w' => e = .returned (.int .i64 0) ∧ W = w')) :
    Calls Tryd.prog 22 #[.slice T N Nc, actV ⟨4, n, tt, pick, keep, an, hd⟩ A m c] w fun r w' => r = .returned (.int .i64 (if bareOk ⟨4, n, tt, pick, keep, an, hd⟩ m then 0 else 4)) ∧ Below w.heap.size w w' := by
  generalize hG : (if bareOk ⟨4, n, tt, pick, keep, an, hd⟩ m then (0 : Int) else 4) = Z
  have HG := Lib.hid hG
  clear hG
  go_enter Tryd.func22, Tryd.ntmps22
  go_wp2_with fail
  refine (HC.out _ (by repeat (first | exact Below.refl _ _ | apply bGrow | apply bAlloc | apply Below.drew | apply bDrewN | apply bIter))).mono ?_
  rintro r wx ⟨rfl, rfl⟩
  go_wp2_with fail
  refine (In_yes _ _ _ _ (by decide) (by decide)).mono ?_
  rintro r wx ⟨rfl, rfl⟩
  go_wp2_with fail
  refine (In_yes _ _ _ _ b0 d0).mono ?_
  rintro r wx ⟨rfl, rfl⟩
  go_wp2_with fail
  refine (In_yes _ _ _ _ b1 d1).mono ?_
  rintro r wx ⟨rfl, rfl⟩
  go_wp2_with fail
  refine (In_yes _ _ _ _ b2 c2).mono ?_
  rintro r wx ⟨rfl, rfl⟩
  go_wp2_with fail
  refine (In_yes _ _ _ _ b3 c3).mono ?_
  rintro r wx ⟨rfl, rfl⟩
  go_wp2_with fail
  refine (In_yes _ _ _ _ b4 c4).mono ?_
  rintro r wx ⟨rfl, rfl⟩
  go_wp2_with fail
  refine (In_yes _ _ _ _ b5 c5).mono ?_
  rintro r wx ⟨rfl, rfl⟩
  go_wp2_with fail
  refine (HO.out _ (by repeat (first | exact Below.refl _ _ | apply bGrow | apply bAlloc | apply Below.drew | apply bDrewN | apply bIter))).mono ?_
  rintro r w1 ⟨rfl, hb1⟩
  have x0 := box_at' hb1 0
  have x1 := box_at' hb1 1
  have x2 := box_at' hb1 2
  have x3 := box_at' hb1 3
  have x4 := box_at' hb1 4
  have x5 := box_at' hb1 5
  have x6 := box_at' hb1 6
  have x7 := box_at' hb1 7
  simp at x0 x1 x2 x3 x4 x5 x6 x7
  have HB := Lib.hid (box_below' hb1)
  clear hb1
  go_wp2_with fail
  refine (In_yes _ _ _ _ (by decide) (by decide)).mono ?_
  rintro r wx ⟨rfl, rfl⟩
  go_wp2_with fail
  all_goals
    go_ret
    refine ⟨?_, HB.out⟩
    rw [← HG.out]
    simp [bareOk, *]
set_option maxHeartbeats 2000000 in
theorem Act_b5 (w : World) (T : Option Addr) (N Nc : Nat) (n tt pick keep an hd : Int) (A : Option Addr) (m c : Nat) (b0 : 0 ≤ n) (d0 : n ≤ (N : Int) - 1) (b1 : 0 ≤ tt) (d1 : tt ≤ (N : Int) - 1) (b2 : 0 ≤ pick) (c2 : pick ≤ 1048576) (b3 : 0 ≤ keep) (c3 : keep ≤ 8388608) (b4 : 0 ≤ an) (c4 : an ≤ 4000) (b5 : 0 ≤ hd) (c5 : hd ≤ 4000) (_hN : 1 ≤ N ∧ N ≤ 7)
    (HO : Hid (∀ W, Below w.heap.size w W → Calls Tryd.prog 68 #[.slice A m c] W fun e w' => e = .returned (.int .i64 0) ∧ Below W.heap.size W w')) (HC : Hid (∀ W, Below w.heap.size w W → Calls Tryd.prog 74 #[.slice T N Nc] W fun e w' => e = .returned (.int .i64 0) ∧ W = w')) :
    Calls Tryd.prog 22 #[.slice T N Nc, actV ⟨5, n, tt, pick, keep, an, hd⟩ A m c] w fun r w' => r = .returned (.int .i64 (if bareOk ⟨5, n, tt, pick, keep, an, hd⟩ m then 0 else 4)) ∧ Below w.heap.size w w' := by
  generalize hG : (if bareOk ⟨5, n, tt, pick, keep, an, hd⟩ m then (0 : Int) else 4) = Z
  have HG := Lib.hid hG
  clear hG
  go_enter Tryd.func22, Tryd.ntmps22
  go_wp2_with fail
  refine (HC.out _ (by repeat (first | exact Below.refl _ _ | apply bGrow | apply bAlloc | apply Below.drew | apply bDrewN | apply bIter))).mono ?_
  rintro r wx ⟨rfl, rfl⟩
  go_wp2_with fail
  refine (In_yes _ _ _ _ (by decide) (by decide)).mono ?_
  rintro r wx ⟨rfl, rfl⟩
  go_wp2_with fail
  refine (In_yes _ _ _ _ b0 d0).mono ?_
  rintro r wx ⟨rfl, rfl⟩
  go_wp2_with fail
  refine (In_yes _ _ _ _ b1 d1).mono ?_
  rintro r wx ⟨rfl, rfl⟩
  go_wp2_with fail
  refine (In_yes _ _ _ _ b2 c2).mono ?_
  rintro r wx ⟨rfl, rfl⟩
  go_wp2_with fail
  refine (In_yes _ _ _ _ b3 c3).mono ?_
  rintro r wx ⟨rfl, rfl⟩
  go_wp2_with fail
  refine (In_yes _ _ _ _ b4 c4).mono ?_
  rintro r wx ⟨rfl, rfl⟩
  go_wp2_with fail
  refine (In_yes _ _ _ _ b5 c5).mono ?_
  rintro r wx ⟨rfl, rfl⟩
  go_wp2_with fail
  refine (HO.out _ (by repeat (first | exact Below.refl _ _ | apply bGrow | apply bAlloc | apply Below.drew | apply bDrewN | apply bIter))).mono ?_
  rintro r w1 ⟨rfl, hb1⟩
  have x0 := box_at' hb1 0
  have x1 := box_at' hb1 1
  have x2 := box_at' hb1 2
  have x3 := box_at' hb1 3
  have x4 := box_at' hb1 4
  have x5 := box_at' hb1 5
  have x6 := box_at' hb1 6
  have x7 := box_at' hb1 7
  simp at x0 x1 x2 x3 x4 x5 x6 x7
  have HB := Lib.hid (box_below' hb1)
  clear hb1
  go_wp2_with fail
  refine (In_yes _ _ _ _ (by decide) (by decide)).mono ?_
  rintro r wx ⟨rfl, rfl⟩
  go_wp2_with fail
  all_goals
    go_ret
    refine ⟨?_, HB.out⟩
    rw [← HG.out]
    simp [bareOk, *]
set_option maxHeartbeats 2000000 in
theorem Act_b6 (w : World) (T : Option Addr) (N Nc : Nat) (n tt pick keep an hd : Int) (A : Option Addr) (m c : Nat) (b0 : 0 ≤ n) (d0 : n ≤ (N : Int) - 1) (b1 : 0 ≤ tt) (d1 : tt ≤ (N : Int) - 1) (b2 : 0 ≤ pick) (c2 : pick ≤ 1048576) (b3 : 0 ≤ keep) (c3 : keep ≤ 8388608) (b4 : 0 ≤ an) (c4 : an ≤ 4000) (b5 : 0 ≤ hd) (c5 : hd ≤ 4000) (_hN : 1 ≤ N ∧ N ≤ 7)
    (HO : Hid (∀ W, Below w.heap.size w W → Calls Tryd.prog 68 #[.slice A m c] W fun e w' => e = .returned (.int .i64 0) ∧ Below W.heap.size W w')) (HC : Hid (∀ W, Below w.heap.size w W → Calls Tryd.prog 74 #[.slice T N Nc] W fun e w' => e = .returned (.int .i64 0) ∧ W = w')) :
    Calls Tryd.prog 22 #[.slice T N Nc, actV ⟨6, n, tt, pick, keep, an, hd⟩ A m c] w fun r w' => r = .returned (.int .i64 (if bareOk ⟨6, n, tt, pick, keep, an, hd⟩ m then 0 else 4)) ∧ Below w.heap.size w w' := by
  generalize hG : (if bareOk ⟨6, n, tt, pick, keep, an, hd⟩ m then (0 : Int) else 4) = Z
  have HG := Lib.hid hG
  clear hG
  go_enter Tryd.func22, Tryd.ntmps22
  go_wp2_with fail
  refine (HC.out _ (by repeat (first | exact Below.refl _ _ | apply bGrow | apply bAlloc | apply Below.drew | apply bDrewN | apply bIter))).mono ?_
  rintro r wx ⟨rfl, rfl⟩
  go_wp2_with fail
  refine (In_yes _ _ _ _ (by decide) (by decide)).mono ?_
  rintro r wx ⟨rfl, rfl⟩
  go_wp2_with fail
  refine (In_yes _ _ _ _ b0 d0).mono ?_
  rintro r wx ⟨rfl, rfl⟩
  go_wp2_with fail
  refine (In_yes _ _ _ _ b1 d1).mono ?_
  rintro r wx ⟨rfl, rfl⟩
  go_wp2_with fail
  refine (In_yes _ _ _ _ b2 c2).mono ?_
  rintro r wx ⟨rfl, rfl⟩
  go_wp2_with fail
  refine (In_yes _ _ _ _ b3 c3).mono ?_
  rintro r wx ⟨rfl, rfl⟩
  go_wp2_with fail
  refine (In_yes _ _ _ _ b4 c4).mono ?_
  rintro r wx ⟨rfl, rfl⟩
  go_wp2_with fail
  refine (In_yes _ _ _ _ b5 c5).mono ?_
  rintro r wx ⟨rfl, rfl⟩
  go_wp2_with fail
  refine (HO.out _ (by repeat (first | exact Below.refl _ _ | apply bGrow | apply bAlloc | apply Below.drew | apply bDrewN | apply bIter))).mono ?_
  rintro r w1 ⟨rfl, hb1⟩
  have x0 := box_at' hb1 0
  have x1 := box_at' hb1 1
  have x2 := box_at' hb1 2
  have x3 := box_at' hb1 3
  have x4 := box_at' hb1 4
  have x5 := box_at' hb1 5
  have x6 := box_at' hb1 6
  have x7 := box_at' hb1 7
  simp at x0 x1 x2 x3 x4 x5 x6 x7
  have HB := Lib.hid (box_below' hb1)
  clear hb1
  go_wp2_with fail
  refine (In_yes _ _ _ _ (by decide) (by decide)).mono ?_
  rintro r wx ⟨rfl, rfl⟩
  go_wp2_with fail
  all_goals
    go_ret
    refine ⟨?_, HB.out⟩
    rw [← HG.out]
    simp [bareOk, *]
set_option maxHeartbeats 2000000 in
theorem Act_b7 (w : World) (T : Option Addr) (N Nc : Nat) (n tt pick keep an hd : Int) (A : Option Addr) (m c : Nat) (b0 : 0 ≤ n) (d0 : n ≤ (N : Int) - 1) (b1 : 0 ≤ tt) (d1 : tt ≤ (N : Int) - 1) (b2 : 0 ≤ pick) (c2 : pick ≤ 1048576) (b3 : 0 ≤ keep) (c3 : keep ≤ 8388608) (b4 : 0 ≤ an) (c4 : an ≤ 4000) (b5 : 0 ≤ hd) (c5 : hd ≤ 4000) (_hN : 1 ≤ N ∧ N ≤ 7)
    (HO : Hid (∀ W, Below w.heap.size w W → Calls Tryd.prog 68 #[.slice A m c] W fun e w' => e = .returned (.int .i64 0) ∧ Below W.heap.size W w')) (HC : Hid (∀ W, Below w.heap.size w W → Calls Tryd.prog 74 #[.slice T N Nc] W fun e w' => e = .returned (.int .i64 0) ∧ W = w')) :
    Calls Tryd.prog 22 #[.slice T N Nc, actV ⟨7, n, tt, pick, keep, an, hd⟩ A m c] w fun r w' => r = .returned (.int .i64 (if bareOk ⟨7, n, tt, pick, keep, an, hd⟩ m then 0 else 4)) ∧ Below w.heap.size w w' := by
  generalize hG : (if bareOk ⟨7, n, tt, pick, keep, an, hd⟩ m then (0 : Int) else 4) = Z
  have HG := Lib.hid hG
  clear hG
  go_enter Tryd.func22, Tryd.ntmps22
  go_wp2_with fail
  refine (HC.out _ (by repeat (first | exact Below.refl _ _ | apply bGrow | apply bAlloc | apply Below.drew | apply bDrewN | apply bIter))).mono ?_
  rintro r wx ⟨rfl, rfl⟩
  go_wp2_with fail
  refine (In_yes _ _ _ _ (by decide) (by decide)).mono ?_
  rintro r wx ⟨rfl, rfl⟩
  go_wp2_with fail
  refine (In_yes _ _ _ _ b0 d0).mono ?_
  rintro r wx ⟨rfl, rfl⟩
  go_wp2_with fail
  refine (In_yes _ _ _ _ b1 d1).mono ?_
  rintro r wx ⟨rfl, rfl⟩
  go_wp2_with fail
  refine (In_yes _ _ _ _ b2 c2).mono ?_
  rintro r wx ⟨rfl, rfl⟩
  go_wp2_with fail
  refine (In_yes _ _ _ _ b3 c3).mono ?_
  rintro r wx ⟨rfl, rfl⟩
  go_wp2_with fail
  refine (In_yes _ _ _ _ b4 c4).mono ?_
  rintro r wx ⟨rfl, rfl⟩
  go_wp2_with fail
  refine (In_yes _ _ _ _ b5 c5).mono ?_
  rintro r wx ⟨rfl, rfl⟩
  go_wp2_with fail
  refine (HO.out _ (by repeat (first | exact Below.refl _ _ | apply bGrow | apply bAlloc | apply Below.drew | apply bDrewN | apply bIter))).mono ?_
  rintro r w1 ⟨rfl, hb1⟩
  have x0 := box_at' hb1 0
  have x1 := box_at' hb1 1
  have x2 := box_at' hb1 2
  have x3 := box_at' hb1 3
  have x4 := box_at' hb1 4
  have x5 := box_at' hb1 5
  have x6 := box_at' hb1 6
  have x7 := box_at' hb1 7
  simp at x0 x1 x2 x3 x4 x5 x6 x7
  have HB := Lib.hid (box_below' hb1)
  clear hb1
  go_wp2_with fail
  refine (In_no _ _ _ _ (by decide)).mono ?_
  rintro r wx ⟨rfl, rfl⟩
  go_wp2_with fail
  all_goals
    go_ret
    refine ⟨?_, HB.out⟩
    rw [← HG.out]
    simp [bareOk, *]
set_option maxHeartbeats 2000000 in
theorem Act_b8 (w : World) (T : Option Addr) (N Nc : Nat) (n tt pick keep an hd : Int) (A : Option Addr) (m c : Nat) (b0 : 0 ≤ n) (d0 : n ≤ (N : Int) - 1) (b1 : 0 ≤ tt) (d1 : tt ≤ (N : Int) - 1) (b2 : 0 ≤ pick) (c2 : pick ≤ 1048576) (b3 : 0 ≤ keep) (c3 : keep ≤ 8388608) (b4 : 0 ≤ an) (c4 : an ≤ 4000) (b5 : 0 ≤ hd) (c5 : hd ≤ 4000) (_hN : 1 ≤ N ∧ N ≤ 7)
    (HO : Hid (∀ W, Below w.heap.size w W → Calls Tryd.prog 68 #[.slice A m c] W fun e w' => e = .returned (.int .i64 0) ∧ Below W.heap.size W w')) (HC : Hid (∀ W, Below w.heap.size w W → Calls Tryd.prog 74 #[.slice T N Nc] W fun e w' => e = .returned (.int .i64 0) ∧ W = w')) :
    Calls Tryd.prog 22 #[.slice T N Nc, actV ⟨8, n, tt, pick, keep, an, hd⟩ A m c] w fun r w' => r = .returned (.int .i64 (if bareOk ⟨8, n, tt, pick, keep, an, hd⟩ m then 0 else 4)) ∧ Below w.heap.size w w' := by
  generalize hG : (if bareOk ⟨8, n, tt, pick, keep, an, hd⟩ m then (0 : Int) else 4) = Z
  have HG := Lib.hid hG
  clear hG
  go_enter Tryd.func22, Tryd.ntmps22
  go_wp2_with fail
  refine (HC.out _ (by repeat (first | exact Below.refl _ _ | apply bGrow | apply bAlloc | apply Below.drew | apply bDrewN | apply bIter))).mono ?_
  rintro r wx ⟨rfl, rfl⟩
  go_wp2_with fail
  refine (In_yes _ _ _ _ (by decide) (by decide)).mono ?_
  rintro r wx ⟨rfl, rfl⟩
  go_wp2_with fail
  refine (In_yes _ _ _ _ b0 d0).mono ?_
  rintro r wx ⟨rfl, rfl⟩
  go_wp2_with fail
  refine (In_yes _ _ _ _ b1 d1).mono ?_
  rintro r wx ⟨rfl, rfl⟩
  go_wp2_with fail
  refine (In_yes _ _ _ _ b2 c2).mono ?_
  rintro r wx ⟨rfl, rfl⟩
  go_wp2_with fail
  refine (In_yes _ _ _ _ b3 c3).mono ?_
  rintro r wx ⟨rfl, rfl⟩
  go_wp2_with fail
  refine (In_yes _ _ _ _ b4 c4).mono ?_
  rintro r wx ⟨rfl, rfl⟩
  go_wp2_with fail
  refine (In_yes _ _ _ _ b5 c5).mono ?_
  rintro r wx ⟨rfl, rfl⟩
  go_wp2_with fail
  refine (HO.out _ (by repeat (first | exact Below.refl _ _ | apply bGrow | apply bAlloc | apply Below.drew | apply bDrewN | apply bIter))).mono ?_
  rintro r w1 ⟨rfl, hb1⟩
  have x0 := box_at' hb1 0
  have x1 := box_at' hb1 1
  have x2 := box_at' hb1 2
  have x3 := box_at' hb1 3
  have x4 := box_at' hb1 4
  have x5 := box_at' hb1 5
  have x6 := box_at' hb1 6
  have x7 := box_at' hb1 7
  simp at x0 x1 x2 x3 x4 x5 x6 x7
  have HB := Lib.hid (box_below' hb1)
  clear hb1
  go_wp2_with fail
  refine (In_no _ _ _ _ (by decide)).mono ?_
  rintro r wx ⟨rfl, rfl⟩
  go_wp2_with fail
  all_goals
    go_ret
    refine ⟨?_, HB.out⟩
    rw [← HG.out]
    simp [bareOk, *]
set_option maxHeartbeats 2000000 in
theorem Act_b9 (w : World) (T : Option Addr) (N Nc : Nat) (n tt pick keep an hd : Int) (A : Option Addr) (m c : Nat) (b0 : 0 ≤ n) (d0 : n ≤ (N : Int) - 1) (b1 : 0 ≤ tt) (d1 : tt ≤ (N : Int) - 1) (b2 : 0 ≤ pick) (c2 : pick ≤ 1048576) (b3 : 0 ≤ keep) (c3 : keep ≤ 8388608) (b4 : 0 ≤ an) (c4 : an ≤ 4000) (b5 : 0 ≤ hd) (c5 : hd ≤ 4000) (_hN : 1 ≤ N ∧ N ≤ 7)
    (HO : Hid (∀ W, Below w.heap.size w W → Calls Tryd.prog 68 #[.slice A m c] W fun e w' => e = .returned (.int .i64 0) ∧ Below W.heap.size W w')) (HC : Hid (∀ W, Below w.heap.size w W → Calls Tryd.prog 74 #[.slice T N Nc] W fun e w' => e = .returned (.int .i64 0) ∧ W = w')) :
    Calls Tryd.prog 22 #[.slice T N Nc, actV ⟨9, n, tt, pick, keep, an, hd⟩ A m c] w fun r w' => r = .returned (.int .i64 (if bareOk ⟨9, n, tt, pick, keep, an, hd⟩ m then 0 else 4)) ∧ Below w.heap.size w w' := by
  generalize hG : (if bareOk ⟨9, n, tt, pick, keep, an, hd⟩ m then (0 : Int) else 4) = Z
  have HG := Lib.hid hG
  clear hG
  go_enter Tryd.func22, Tryd.ntmps22
  go_wp2_with fail
  refine (HC.out _ (by repeat (first | exact Below.refl _ _ | apply bGrow | apply bAlloc | apply Below.drew | apply bDrewN | apply bIter))).mono ?_
  rintro r wx ⟨rfl, rfl⟩
  go_wp2_with fail
  refine (In_yes _ _ _ _ (by decide) (by decide)).mono ?_
  rintro r wx ⟨rfl, rfl⟩
  go_wp2_with fail
  refine (In_yes _ _ _ _ b0 d0).mono ?_
  rintro r wx ⟨rfl, rfl⟩
  go_wp2_with fail
  refine (In_yes _ _ _ _ b1 d1).mono ?_
  rintro r wx ⟨rfl, rfl⟩
  go_wp2_with fail
  refine (In_yes _ _ _ _ b2 c2).mono ?_
  rintro r wx ⟨rfl, rfl⟩
  go_wp2_with fail
  refine (In_yes _ _ _ _ b3 c3).mono ?_
  rintro r wx ⟨rfl, rfl⟩
  go_wp2_with fail
  refine (In_yes _ _ _ _ b4 c4).mono ?_
  rintro r wx ⟨rfl, rfl⟩
  go_wp2_with fail
  refine (In_yes _ _ _ _ b5 c5).mono ?_
  rintro r wx ⟨rfl, rfl⟩
  go_wp2_with fail
  refine (HO.out _ (by repeat (first | exact Below.refl _ _ | apply bGrow | apply bAlloc | apply Below.drew | apply bDrewN | apply bIter))).mono ?_
  rintro r w1 ⟨rfl, hb1⟩
  have x0 := box_at' hb1 0
  have x1 := box_at' hb1 1
  have x2 := box_at' hb1 2
  have x3 := box_at' hb1 3
  have x4 := box_at' hb1 4
  have x5 := box_at' hb1 5
  have x6 := box_at' hb1 6
  have x7 := box_at' hb1 7
  simp at x0 x1 x2 x3 x4 x5 x6 x7
  have HB := Lib.hid (box_below' hb1)
  clear hb1
  go_wp2_with fail
  refine (In_no _ _ _ _ (by decide)).mono ?_
  rintro r wx ⟨rfl, rfl⟩
  go_wp2_with fail
  all_goals
    go_ret
    refine ⟨?_, HB.out⟩
    rw [← HG.out]
    simp [bareOk, *]
end Go.Proofs.YtiooimnlkcpnnaaDoor
