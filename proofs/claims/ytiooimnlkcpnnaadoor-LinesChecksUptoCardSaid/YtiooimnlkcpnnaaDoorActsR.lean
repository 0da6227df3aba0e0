/-
  Contracts of lines.Check and the reference's ActFault.
-/
import Derived.Test.YtiooimnlkcpnnaaDoorRows
import Derived.Test.YtiooimnlkcpnnaaDoorActsC
namespace Go.Proofs.YtiooimnlkcpnnaaDoor
open Go.ChangeShapes Go.WideShapes Go.ChangeAt Go.RowKit
set_option maxRecDepth 100000
set_option maxHeartbeats 2000000 in
theorem Act_tree (w : World) (T : Option Addr) (N Nc : Nat) (a : ActN) (A : Option Addr) (c : Nat) (ps : List PartD) (x : Int) (hx : (x != 0) = true) (HC : Hid (∀ W, Below w.heap.size w W → Calls Tryd.prog 74 #[.slice T N Nc] W fun e w' => e = .returned (.int .i64 x) ∧ W = w')) :
    Calls Tryd.prog 22 #[.slice T N Nc, actV a A ps.length c] w fun r w' => r = .returned (.int .i64 x) ∧ Below w.heap.size w w' := by
  obtain ⟨k, n, tt, pick, keep, an, hd⟩ := a
  go_enter Tryd.func22, Tryd.ntmps22
  go_wp2_with fail
  refine (HC.out _ (by repeat (first | exact Below.refl _ _ | apply bGrow | apply bAlloc | apply Below.drew | apply bDrewN | apply bIter))).mono ?_
  rintro r wx ⟨rfl, rfl⟩
  go_wp2_with fail
  go_ret
  exact ⟨rfl, (by repeat (first | exact Below.refl _ _ | apply bGrow | apply bAlloc | apply Below.drew | apply bDrewN | apply bIter))⟩
set_option maxHeartbeats 2000000 in
theorem Act_kind (w : World) (T : Option Addr) (N Nc : Nat) (a : ActN) (A : Option Addr) (c : Nat) (ps : List PartD) (H : Hid (a.k < 1 ∨ 9 < a.k)) (HC : Hid (∀ W, Below w.heap.size w W → Calls Tryd.prog 74 #[.slice T N Nc] W fun e w' => e = .returned (.int .i64 0) ∧ W = w')) :
    Calls Tryd.prog 22 #[.slice T N Nc, actV a A ps.length c] w fun r w' => r = .returned (.int .i64 3) ∧ Below w.heap.size w w' := by
  obtain ⟨k, n, tt, pick, keep, an, hd⟩ := a
  dsimp only at *
  go_enter Tryd.func22, Tryd.ntmps22
  go_wp2_with fail
  refine (HC.out _ (by repeat (first | exact Below.refl _ _ | apply bGrow | apply bAlloc | apply Below.drew | apply bDrewN | apply bIter))).mono ?_
  rintro r wx ⟨rfl, rfl⟩
  go_wp2_with fail
  refine (In_no _ _ _ _ H.out).mono ?_
  rintro r wx ⟨rfl, rfl⟩
  go_wp2_with fail
  go_ret
  exact ⟨rfl, (by repeat (first | exact Below.refl _ _ | apply bGrow | apply bAlloc | apply Below.drew | apply bDrewN | apply bIter))⟩
set_option maxHeartbeats 2000000 in
theorem Act_n0 (w : World) (T : Option Addr) (N Nc : Nat) (a : ActN) (A : Option Addr) (c : Nat) (ps : List PartD) (h1 : 1 ≤ a.k) (h2 : a.k ≤ 9) (hN : 1 ≤ N) (hN7 : N ≤ 7) (H : Hid (a.n < 0 ∨ (N : Int) - 1 < a.n)) (HC : Hid (∀ W, Below w.heap.size w W → Calls Tryd.prog 74 #[.slice T N Nc] W fun e w' => e = .returned (.int .i64 0) ∧ W = w')) :
    Calls Tryd.prog 22 #[.slice T N Nc, actV a A ps.length c] w fun r w' => r = .returned (.int .i64 2) ∧ Below w.heap.size w w' := by
  obtain ⟨k, n, tt, pick, keep, an, hd⟩ := a
  dsimp only at *
  go_enter Tryd.func22, Tryd.ntmps22
  go_wp2_with fail
  refine (HC.out _ (by repeat (first | exact Below.refl _ _ | apply bGrow | apply bAlloc | apply Below.drew | apply bDrewN | apply bIter))).mono ?_
  rintro r wx ⟨rfl, rfl⟩
  go_wp2_with fail
  refine (In_yes _ _ _ _ h1 h2).mono ?_
  rintro r wx ⟨rfl, rfl⟩
  go_wp2_with fail
  refine (In_no _ _ _ _ H.out).mono ?_
  rintro r wx ⟨rfl, rfl⟩
  go_wp2_with fail
  go_ret
  exact ⟨rfl, (by repeat (first | exact Below.refl _ _ | apply bGrow | apply bAlloc | apply Below.drew | apply bDrewN | apply bIter))⟩
set_option maxHeartbeats 2000000 in
theorem Act_n1 (w : World) (T : Option Addr) (N Nc : Nat) (a : ActN) (A : Option Addr) (c : Nat) (ps : List PartD) (h1 : 1 ≤ a.k) (h2 : a.k ≤ 9) (hN : 1 ≤ N) (hN7 : N ≤ 7) (b0 : 0 ≤ a.n) (c0 : a.n ≤ (N : Int) - 1) (H : Hid (a.tt < 0 ∨ (N : Int) - 1 < a.tt)) (HC : Hid (∀ W, Below w.heap.size w W → Calls Tryd.prog 74 #[.slice T N Nc] W fun e w' => e = .returned (.int .i64 0) ∧ W = w')) :
    Calls Tryd.prog 22 #[.slice T N Nc, actV a A ps.length c] w fun r w' => r = .returned (.int .i64 2) ∧ Below w.heap.size w w' := by
  obtain ⟨k, n, tt, pick, keep, an, hd⟩ := a
  dsimp only at *
  go_enter Tryd.func22, Tryd.ntmps22
  go_wp2_with fail
  refine (HC.out _ (by repeat (first | exact Below.refl _ _ | apply bGrow | apply bAlloc | apply Below.drew | apply bDrewN | apply bIter))).mono ?_
  rintro r wx ⟨rfl, rfl⟩
  go_wp2_with fail
  refine (In_yes _ _ _ _ h1 h2).mono ?_
  rintro r wx ⟨rfl, rfl⟩
  go_wp2_with fail
  refine (In_yes _ _ _ _ b0 c0).mono ?_
  rintro r wx ⟨rfl, rfl⟩
  go_wp2_with fail
  refine (In_no _ _ _ _ H.out).mono ?_
  rintro r wx ⟨rfl, rfl⟩
  go_wp2_with fail
  go_ret
  exact ⟨rfl, (by repeat (first | exact Below.refl _ _ | apply bGrow | apply bAlloc | apply Below.drew | apply bDrewN | apply bIter))⟩
set_option maxHeartbeats 2000000 in
theorem Act_n2 (w : World) (T : Option Addr) (N Nc : Nat) (a : ActN) (A : Option Addr) (c : Nat) (ps : List PartD) (h1 : 1 ≤ a.k) (h2 : a.k ≤ 9) (hN : 1 ≤ N) (hN7 : N ≤ 7) (b0 : 0 ≤ a.n) (c0 : a.n ≤ (N : Int) - 1) (b1 : 0 ≤ a.tt) (c1 : a.tt ≤ (N : Int) - 1) (H : Hid (a.pick < 0 ∨ 1048576 < a.pick)) (HC : Hid (∀ W, Below w.heap.size w W → Calls Tryd.prog 74 #[.slice T N Nc] W fun e w' => e = .returned (.int .i64 0) ∧ W = w')) :
    Calls Tryd.prog 22 #[.slice T N Nc, actV a A ps.length c] w fun r w' => r = .returned (.int .i64 2) ∧ Below w.heap.size w w' := by
  obtain ⟨k, n, tt, pick, keep, an, hd⟩ := a
  dsimp only at *
  go_enter Tryd.func22, Tryd.ntmps22
  go_wp2_with fail
  refine (HC.out _ (by repeat (first | exact Below.refl _ _ | apply bGrow | apply bAlloc | apply Below.drew | apply bDrewN | apply bIter))).mono ?_
  rintro r wx ⟨rfl, rfl⟩
  go_wp2_with fail
  refine (In_yes _ _ _ _ h1 h2).mono ?_
  rintro r wx ⟨rfl, rfl⟩
  go_wp2_with fail
  refine (In_yes _ _ _ _ b0 c0).mono ?_
  rintro r wx ⟨rfl, rfl⟩
  go_wp2_with fail
  refine (In_yes _ _ _ _ b1 c1).mono ?_
  rintro r wx ⟨rfl, rfl⟩
  go_wp2_with fail
  refine (In_no _ _ _ _ H.out).mono ?_
  rintro r wx ⟨rfl, rfl⟩
  go_wp2_with fail
  go_ret
  exact ⟨rfl, (by repeat (first | exact Below.refl _ _ | apply bGrow | apply bAlloc | apply Below.drew | apply bDrewN | apply bIter))⟩
set_option maxHeartbeats 2000000 in
theorem Act_n3 (w : World) (T : Option Addr) (N Nc : Nat) (a : ActN) (A : Option Addr) (c : Nat) (ps : List PartD) (h1 : 1 ≤ a.k) (h2 : a.k ≤ 9) (hN : 1 ≤ N) (hN7 : N ≤ 7) (b0 : 0 ≤ a.n) (c0 : a.n ≤ (N : Int) - 1) (b1 : 0 ≤ a.tt) (c1 : a.tt ≤ (N : Int) - 1) (b2 : 0 ≤ a.pick) (c2 : a.pick ≤ 1048576) (H : Hid (a.keep < 0 ∨ 8388608 < a.keep)) (HC : Hid (∀ W, Below w.heap.size w W → Calls Tryd.prog 74 #[.slice T N Nc] W fun e w' => e = .returned (.int .i64 0) ∧ W = w')) :
    Calls Tryd.prog 22 #[.slice T N Nc, actV a A ps.length c] w fun r w' => r = .returned (.int .i64 2) ∧ Below w.heap.size w w' := by
  obtain ⟨k, n, tt, pick, keep, an, hd⟩ := a
  dsimp only at *
  go_enter Tryd.func22, Tryd.ntmps22
  go_wp2_with fail
  refine (HC.out _ (by repeat (first | exact Below.refl _ _ | apply bGrow | apply bAlloc | apply Below.drew | apply bDrewN | apply bIter))).mono ?_
  rintro r wx ⟨rfl, rfl⟩
  go_wp2_with fail
  refine (In_yes _ _ _ _ h1 h2).mono ?_
  rintro r wx ⟨rfl, rfl⟩
  go_wp2_with fail
  refine (In_yes _ _ _ _ b0 c0).mono ?_
  rintro r wx ⟨rfl, rfl⟩
  go_wp2_with fail
  refine (In_yes _ _ _ _ b1 c1).mono ?_
  rintro r wx ⟨rfl, rfl⟩
  go_wp2_with fail
  refine (In_yes _ _ _ _ b2 c2).mono ?_
  rintro r wx ⟨rfl, rfl⟩
  go_wp2_with fail
  refine (In_no _ _ _ _ H.out).mono ?_
  rintro r wx ⟨rfl, rfl⟩
  go_wp2_with fail
  go_ret
  exact ⟨rfl, (by repeat (first | exact Below.refl _ _ | apply bGrow | apply bAlloc | apply Below.drew | apply bDrewN | apply bIter))⟩
set_option maxHeartbeats 2000000 in
theorem Act_n4 (w : World) (T : Option Addr) (N Nc : Nat) (a : ActN) (A : Option Addr) (c : Nat) (ps : List PartD) (h1 : 1 ≤ a.k) (h2 : a.k ≤ 9) (hN : 1 ≤ N) (hN7 : N ≤ 7) (b0 : 0 ≤ a.n) (c0 : a.n ≤ (N : Int) - 1) (b1 : 0 ≤ a.tt) (c1 : a.tt ≤ (N : Int) - 1) (b2 : 0 ≤ a.pick) (c2 : a.pick ≤ 1048576) (b3 : 0 ≤ a.keep) (c3 : a.keep ≤ 8388608) (H : Hid (a.an < 0 ∨ 4000 < a.an)) (HC : Hid (∀ W, Below w.heap.size w W → Calls Tryd.prog 74 #[.slice T N Nc] W fun e w' => e = .returned (.int .i64 0) ∧ W = w')) :
    Calls Tryd.prog 22 #[.slice T N Nc, actV a A ps.length c] w fun r w' => r = .returned (.int .i64 2) ∧ Below w.heap.size w w' := by
  obtain ⟨k, n, tt, pick, keep, an, hd⟩ := a
  dsimp only at *
  go_enter Tryd.func22, Tryd.ntmps22
  go_wp2_with fail
  refine (HC.out _ (by repeat (first | exact Below.refl _ _ | apply bGrow | apply bAlloc | apply Below.drew | apply bDrewN | apply bIter))).mono ?_
  rintro r wx ⟨rfl, rfl⟩
  go_wp2_with fail
  refine (In_yes _ _ _ _ h1 h2).mono ?_
  rintro r wx ⟨rfl, rfl⟩
  go_wp2_with fail
  refine (In_yes _ _ _ _ b0 c0).mono ?_
  rintro r wx ⟨rfl, rfl⟩
  go_wp2_with fail
  refine (In_yes _ _ _ _ b1 c1).mono ?_
  rintro r wx ⟨rfl, rfl⟩
  go_wp2_with fail
  refine (In_yes _ _ _ _ b2 c2).mono ?_
  rintro r wx ⟨rfl, rfl⟩
  go_wp2_with fail
  refine (In_yes _ _ _ _ b3 c3).mono ?_
  rintro r wx ⟨rfl, rfl⟩
  go_wp2_with fail
  refine (In_no _ _ _ _ H.out).mono ?_
  rintro r wx ⟨rfl, rfl⟩
  go_wp2_with fail
  go_ret
  exact ⟨rfl, (by repeat (first | exact Below.refl _ _ | apply bGrow | apply bAlloc | apply Below.drew | apply bDrewN | apply bIter))⟩
set_option maxHeartbeats 2000000 in
theorem Act_n5 (w : World) (T : Option Addr) (N Nc : Nat) (a : ActN) (A : Option Addr) (c : Nat) (ps : List PartD) (h1 : 1 ≤ a.k) (h2 : a.k ≤ 9) (hN : 1 ≤ N) (hN7 : N ≤ 7) (b0 : 0 ≤ a.n) (c0 : a.n ≤ (N : Int) - 1) (b1 : 0 ≤ a.tt) (c1 : a.tt ≤ (N : Int) - 1) (b2 : 0 ≤ a.pick) (c2 : a.pick ≤ 1048576) (b3 : 0 ≤ a.keep) (c3 : a.keep ≤ 8388608) (b4 : 0 ≤ a.an) (c4 : a.an ≤ 4000) (H : Hid (a.hd < 0 ∨ 4000 < a.hd)) (HC : Hid (∀ W, Below w.heap.size w W → Calls Tryd.prog 74 #[.slice T N Nc] W fun e w' => e = .returned (.int .i64 0) ∧ W = w')) :
    Calls Tryd.prog 22 #[.slice T N Nc, actV a A ps.length c] w fun r w' => r = .returned (.int .i64 2) ∧ Below w.heap.size w w' := by
  obtain ⟨k, n, tt, pick, keep, an, hd⟩ := a
  dsimp only at *
  go_enter Tryd.func22, Tryd.ntmps22
  go_wp2_with fail
  refine (HC.out _ (by repeat (first | exact Below.refl _ _ | apply bGrow | apply bAlloc | apply Below.drew | apply bDrewN | apply bIter))).mono ?_
  rintro r wx ⟨rfl, rfl⟩
  go_wp2_with fail
  refine (In_yes _ _ _ _ h1 h2).mono ?_
  rintro r wx ⟨rfl, rfl⟩
  go_wp2_with fail
  refine (In_yes _ _ _ _ b0 c0).mono ?_
  rintro r wx ⟨rfl, rfl⟩
  go_wp2_with fail
  refine (In_yes _ _ _ _ b1 c1).mono ?_
  rintro r wx ⟨rfl, rfl⟩
  go_wp2_with fail
  refine (In_yes _ _ _ _ b2 c2).mono ?_
  rintro r wx ⟨rfl, rfl⟩
  go_wp2_with fail
  refine (In_yes _ _ _ _ b3 c3).mono ?_
  rintro r wx ⟨rfl, rfl⟩
  go_wp2_with fail
  refine (In_yes _ _ _ _ b4 c4).mono ?_
  rintro r wx ⟨rfl, rfl⟩
  go_wp2_with fail
  refine (In_no _ _ _ _ H.out).mono ?_
  rintro r wx ⟨rfl, rfl⟩
  go_wp2_with fail
  go_ret
  exact ⟨rfl, (by repeat (first | exact Below.refl _ _ | apply bGrow | apply bAlloc | apply Below.drew | apply bDrewN | apply bIter))⟩
set_option maxHeartbeats 2000000 in
theorem Act_op (w : World) (T : Option Addr) (N Nc : Nat) (a : ActN) (A : Option Addr) (c : Nat) (ps : List PartD) (h1 : 1 ≤ a.k) (h2 : a.k ≤ 9) (hN7 : 1 ≤ N ∧ N ≤ 7) (hn : actNums N a) (hT : Tabs w) (hs : OpIn (· < w.heap.size) w A ps) (x : Int) (hx : (x != 0) = true) (HO : Hid (∀ W, Tabs W → OpIn (· < W.heap.size) W A ps → Calls Tryd.prog 68 #[.slice A ps.length c] W fun e w' => e = .returned (.int .i64 x) ∧ Below W.heap.size W w')) (HC : Hid (∀ W, Below w.heap.size w W → Calls Tryd.prog 74 #[.slice T N Nc] W fun e w' => e = .returned (.int .i64 0) ∧ W = w')) :
    Calls Tryd.prog 22 #[.slice T N Nc, actV a A ps.length c] w fun r w' => r = .returned (.int .i64 x) ∧ Below w.heap.size w w' := by
  obtain ⟨⟨b0, c0⟩, ⟨b1, c1⟩, ⟨b2, c2⟩, ⟨b3, c3⟩, ⟨b4, c4⟩, ⟨b5, c5⟩⟩ := hn
  have d0 : a.n ≤ (N : Int) - 1 := by omega
  have d1 : a.tt ≤ (N : Int) - 1 := by omega
  clear c0 c1
  have HT := Lib.hid hT
  clear hT
  obtain ⟨k, n, tt, pick, keep, an, hd⟩ := a
  dsimp only at *
  go_enter Tryd.func22, Tryd.ntmps22
  go_wp2_with fail
  refine (HC.out _ (by repeat (first | exact Below.refl _ _ | apply bGrow | apply bAlloc | apply Below.drew | apply bDrewN | apply bIter))).mono ?_
  rintro r wx ⟨rfl, rfl⟩
  go_wp2_with fail
  refine (In_yes _ _ _ _ h1 h2).mono ?_
  rintro r wx ⟨rfl, rfl⟩
  go_wp2_with fail
  refine (In_yes _ _ _ _ b0 d0).mono ?_
  rintro r wx ⟨rfl, rfl⟩
  go_wp2_with fail
  refine (In_yes _ _ _ _ b1 d1).mono ?_
  rintro r wx ⟨rfl, rfl⟩
  go_wp2_with fail
  refine (In_yes _ _ _ _ b2 c2).mono ?_
  rintro r wx ⟨rfl, rfl⟩
  go_wp2_with fail
  refine (In_yes _ _ _ _ b3 c3).mono ?_
  rintro r wx ⟨rfl, rfl⟩
  go_wp2_with fail
  refine (In_yes _ _ _ _ b4 c4).mono ?_
  rintro r wx ⟨rfl, rfl⟩
  go_wp2_with fail
  refine (In_yes _ _ _ _ b5 c5).mono ?_
  rintro r wx ⟨rfl, rfl⟩
  go_wp2_with fail
  refine (HO.out _ (HT.out.later (by repeat (first | exact Below.refl _ _ | apply bGrow | apply bAlloc | apply Below.drew | apply bDrewN | apply bIter))) (Sl.later hs (by repeat (first | exact Below.refl _ _ | apply bGrow | apply bAlloc | apply Below.drew | apply bDrewN | apply bIter)))).mono ?_
  rintro r w1 ⟨rfl, hb1⟩
  go_wp2_with fail
  go_ret
  exact ⟨rfl, bThen (by repeat (first | exact Below.refl _ _ | apply bGrow | apply bAlloc | apply Below.drew | apply bDrewN | apply bIter)) hb1⟩
end Go.Proofs.YtiooimnlkcpnnaaDoor
