/-
  Contracts of lines.Check and the reference's ActFault.
-/
import Derived.Test.YtiooimnlkcpnnaaDoorRows
import Derived.Test.YtiooimnlkcpnnaaDoorActs
namespace Go.Proofs.YtiooimnlkcpnnaaDoor
open Go.ChangeShapes Go.WideShapes Go.ChangeAt Go.RowKit
set_option maxRecDepth 100000
def actNums (N : Int) (a : ActN) : Prop := (0 ≤ a.n ∧ a.n < N) ∧ (0 ≤ a.tt ∧ a.tt < N) ∧ (0 ≤ a.pick ∧ a.pick ≤ 1048576) ∧ (0 ≤ a.keep ∧ a.keep ≤ 8388608) ∧ (0 ≤ a.an ∧ a.an ≤ 4000) ∧ (0 ≤ a.hd ∧ a.hd ≤ 4000)
instance (N : Int) (a : ActN) : Decidable (actNums N a) := by
  unfold actNums
  exact inferInstance
/-- What an act is refused for. -/
def actFault (zs : List Int) (a : ActN) (ps : List PartD) : Int :=
  if treeFault zs ≠ 0 then treeFault zs else if a.k < 1 ∨ 9 < a.k then 3 else if ¬ actNums zs.length a then 2 else if opFault ps ≠ 0 then opFault ps else if bareOk a ps.length then 0 else 4
set_option maxHeartbeats 2000000 in
theorem Lines_tree (w : World) (T : Option Addr) (N Nc : Nat) (a : ActN) (A : Option Addr) (c : Nat) (ps : List PartD) (x : Int) (hx : (x != 0) = true) (HC : Hid (∀ W, Below w.heap.size w W → Calls Tryd.prog 72 #[.slice T N Nc] W fun e w' => e = .returned (.int .i64 x) ∧ W = w')) :
    Calls Tryd.prog 21 #[.slice T N Nc, actV a A ps.length c] w fun r w' => r = .returned (.int .i64 x) ∧ Below w.heap.size w w' := by
  obtain ⟨k, n, tt, pick, keep, an, hd⟩ := a
  go_enter Tryd.func21, Tryd.ntmps21
  go_wp2_with fail
  refine (HC.out _ (by repeat (first | exact Below.refl _ _ | apply bGrow | apply bAlloc | apply Below.drew | apply bDrewN | apply bIter))).mono ?_
  rintro r wx ⟨rfl, rfl⟩
  go_wp2_with fail
  go_ret
  exact ⟨rfl, (by repeat (first | exact Below.refl _ _ | apply bGrow | apply bAlloc | apply Below.drew | apply bDrewN | apply bIter))⟩
set_option maxHeartbeats 2000000 in
theorem Lines_kind (w : World) (T : Option Addr) (N Nc : Nat) (a : ActN) (A : Option Addr) (c : Nat) (ps : List PartD) (hk : a.k < 1 ∨ 9 < a.k) (HC : Hid (∀ W, Below w.heap.size w W → Calls Tryd.prog 72 #[.slice T N Nc] W fun e w' => e = .returned (.int .i64 0) ∧ W = w')) :
    Calls Tryd.prog 21 #[.slice T N Nc, actV a A ps.length c] w fun r w' => r = .returned (.int .i64 3) ∧ Below w.heap.size w w' := by
  have H := Lib.hid hk
  clear hk
  obtain ⟨k, n, tt, pick, keep, an, hd⟩ := a
  dsimp only at *
  go_enter Tryd.func21, Tryd.ntmps21
  go_wp2_with fail
  refine (HC.out _ (by repeat (first | exact Below.refl _ _ | apply bGrow | apply bAlloc | apply Below.drew | apply bDrewN | apply bIter))).mono ?_
  rintro r wx ⟨rfl, rfl⟩
  go_wp2_with fail
  all_goals (first | (go_ret; exact ⟨rfl, (by repeat (first | exact Below.refl _ _ | apply bGrow | apply bAlloc | apply Below.drew | apply bDrewN | apply bIter))⟩) | (exfalso; have := H.out; omega))
set_option maxHeartbeats 2000000 in
theorem Lines_nums (w : World) (T : Option Addr) (N Nc : Nat) (a : ActN) (A : Option Addr) (c : Nat) (ps : List PartD) (h1 : 1 ≤ a.k) (h2 : a.k ≤ 9) (hn : ¬ actNums N a) (HC : Hid (∀ W, Below w.heap.size w W → Calls Tryd.prog 72 #[.slice T N Nc] W fun e w' => e = .returned (.int .i64 0) ∧ W = w')) :
    Calls Tryd.prog 21 #[.slice T N Nc, actV a A ps.length c] w fun r w' => r = .returned (.int .i64 2) ∧ Below w.heap.size w w' := by
  have H := Lib.hid hn
  clear hn
  unfold actNums at H
  obtain ⟨k, n, tt, pick, keep, an, hd⟩ := a
  dsimp only at *
  go_enter Tryd.func21, Tryd.ntmps21
  go_wp2_with fail
  refine (HC.out _ (by repeat (first | exact Below.refl _ _ | apply bGrow | apply bAlloc | apply Below.drew | apply bDrewN | apply bIter))).mono ?_
  rintro r wx ⟨rfl, rfl⟩
  go_wp2_with fail
  all_goals (first | (go_ret; exact ⟨rfl, (by repeat (first | exact Below.refl _ _ | apply bGrow | apply bAlloc | apply Below.drew | apply bDrewN | apply bIter))⟩) | (exfalso; have := H.out; omega))
set_option maxHeartbeats 2000000 in
theorem Lines_op (w : World) (T : Option Addr) (N Nc : Nat) (a : ActN) (A : Option Addr) (c : Nat) (ps : List PartD) (h1 : 1 ≤ a.k) (h2 : a.k ≤ 9) (_hN7 : 1 ≤ N ∧ N ≤ 7) (hn : actNums N a) (hT : Tabs w) (hs : OpIn (· < w.heap.size) w A ps) (x : Int) (hx : (x != 0) = true) (HO : Hid (∀ W, Tabs W → OpIn (· < W.heap.size) W A ps → Calls Tryd.prog 65 #[.slice A ps.length c] W fun e w' => e = .returned (.int .i64 x) ∧ Below W.heap.size W w')) (HC : Hid (∀ W, Below w.heap.size w W → Calls Tryd.prog 72 #[.slice T N Nc] W fun e w' => e = .returned (.int .i64 0) ∧ W = w')) :
    Calls Tryd.prog 21 #[.slice T N Nc, actV a A ps.length c] w fun r w' => r = .returned (.int .i64 x) ∧ Below w.heap.size w w' := by
  obtain ⟨⟨b0, c0⟩, ⟨b1, c1⟩, ⟨b2, c2⟩, ⟨b3, c3⟩, ⟨b4, c4⟩, ⟨b5, c5⟩⟩ := hn
  have HT := Lib.hid hT
  clear hT
  obtain ⟨k, n, tt, pick, keep, an, hd⟩ := a
  dsimp only at *
  go_enter Tryd.func21, Tryd.ntmps21
  go_wp2_with fail
  refine (HC.out _ (by repeat (first | exact Below.refl _ _ | apply bGrow | apply bAlloc | apply Below.drew | apply bDrewN | apply bIter))).mono ?_
  rintro r wx ⟨rfl, rfl⟩
  go_wp2_with fail
  refine (HO.out _ (HT.out.later (by repeat (first | exact Below.refl _ _ | apply bGrow | apply bAlloc | apply Below.drew | apply bDrewN | apply bIter))) (Sl.later hs (by repeat (first | exact Below.refl _ _ | apply bGrow | apply bAlloc | apply Below.drew | apply bDrewN | apply bIter)))).mono ?_
  rintro r w1 ⟨rfl, hb1⟩
  go_wp2_with fail
  go_ret
  exact ⟨rfl, bThen (by repeat (first | exact Below.refl _ _ | apply bGrow | apply bAlloc | apply Below.drew | apply bDrewN | apply bIter)) hb1⟩
set_option maxHeartbeats 2000000 in
theorem Lines_bare (w : World) (T : Option Addr) (N Nc : Nat) (a : ActN) (A : Option Addr) (c : Nat) (ps : List PartD) (h1 : 1 ≤ a.k) (h2 : a.k ≤ 9) (_hN7 : 1 ≤ N ∧ N ≤ 7) (hn : actNums N a) (hT : Tabs w) (hs : OpIn (· < w.heap.size) w A ps) (HO : Hid (∀ W, Tabs W → OpIn (· < W.heap.size) W A ps → Calls Tryd.prog 65 #[.slice A ps.length c] W fun e w' => e = .returned (.int .i64 0) ∧ Below W.heap.size W w')) (HC : Hid (∀ W, Below w.heap.size w W → Calls Tryd.prog 72 #[.slice T N Nc] W fun e w' => e = .returned (.int .i64 0) ∧ W = w')) :
    Calls Tryd.prog 21 #[.slice T N Nc, actV a A ps.length c] w fun r w' => r = .returned (.int .i64 (if bareOk a ps.length then 0 else 4)) ∧ Below w.heap.size w w' := by
  have HBr := Lib.hid (fun W => bare_c W a A ps.length c h1 h2)
  have HV := Lib.hid (show (if bareOk a ps.length then (0 : Int) else 4) = if decide (bareOk a ps.length) = true then 0 else 4 by simp)
  rw [HV.out]
  clear HV
  generalize decide (bareOk a ps.length) = b at *
  obtain ⟨⟨b0, c0⟩, ⟨b1, c1⟩, ⟨b2, c2⟩, ⟨b3, c3⟩, ⟨b4, c4⟩, ⟨b5, c5⟩⟩ := hn
  have HT := Lib.hid hT
  clear hT
  obtain ⟨k, n, tt, pick, keep, an, hd⟩ := a
  dsimp only at *
  go_enter Tryd.func21, Tryd.ntmps21
  go_wp2_with fail
  refine (HC.out _ (by repeat (first | exact Below.refl _ _ | apply bGrow | apply bAlloc | apply Below.drew | apply bDrewN | apply bIter))).mono ?_
  rintro r wx ⟨rfl, rfl⟩
  go_wp2_with fail
  refine (HO.out _ (HT.out.later (by repeat (first | exact Below.refl _ _ | apply bGrow | apply bAlloc | apply Below.drew | apply bDrewN | apply bIter))) (Sl.later hs (by repeat (first | exact Below.refl _ _ | apply bGrow | apply bAlloc | apply Below.drew | apply bDrewN | apply bIter)))).mono ?_
  rintro r w1 ⟨rfl, hb1⟩
  have hw := hb1
  have hc : ∀ j, w1.cell? ⟨w.heap.size, j, none⟩ = (#[Value.int .i64 k, .int .i64 n, .int .i64 tt, .int .i64 pick, .int .i64 keep, .slice A ps.length c, .int .i64 an, .int .i64 hd])[j]? := by
    intro j
    rw [hb1.cell (p := ⟨w.heap.size, j, none⟩) (by simp <;> omega)]
    rw [(bAlloc (Below.refl (w.alloc (.cells #[Value.int .i64 k, .int .i64 n, .int .i64 tt, .int .i64 pick, .int .i64 keep, .slice A ps.length c, .int .i64 an, .int .i64 hd] 33)).heap.size _) _).cell (p := ⟨w.heap.size, j, none⟩) (by simp), World.cell?_alloc_new]
  have x0 := hc 0
  have x1 := hc 1
  have x2 := hc 2
  have x3 := hc 3
  have x4 := hc 4
  have x5 := hc 5
  have x6 := hc 6
  have x7 := hc 7
  simp at x0 x1 x2 x3 x4 x5 x6 x7
  have HB := Lib.hid (bThen (show Below w.heap.size w _ from (by repeat (first | exact Below.refl _ _ | apply bGrow | apply bAlloc | apply Below.drew | apply bDrewN | apply bIter))) hb1)
  clear hc hw hb1
  go_wp2_with fail
  refine (HBr.out _).mono ?_
  rintro r w2 ⟨rfl, hb2⟩
  cases b
  all_goals
    go_wp2_with fail
    go_ret
    exact ⟨rfl, bThen HB.out hb2⟩
end Go.Proofs.YtiooimnlkcpnnaaDoor
