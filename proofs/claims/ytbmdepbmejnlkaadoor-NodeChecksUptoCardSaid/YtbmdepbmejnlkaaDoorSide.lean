/-
  Contract of node.side.
-/
import Derived.Test.YtbmdepbmejnlkaaDoorRows
import Derived.Test.YtbmdepbmejnlkaaDoorSideP
import Derived.Test.YtbmdepbmejnlkaaDoorLinkD
import Derived.Test.YtbmdepbmejnlkaaDoorEdgeChecks
import Derived.Test.YtbmdepbmejnlkaaDoorSendP
namespace Go.Proofs.YtbmdepbmejnlkaaDoor
open Go.ChangeShapes Go.WideShapes Go.ChangeAt Go.RowKit
set_option maxRecDepth 100000
theorem wrap_sum {a b : Int} (h1 : 0 ≤ a ∧ a ≤ 1048576) (h2 : 0 ≤ b ∧ b ≤ 1048576) : wrap64 (a + b) = a + b := by
  unfold wrap64
  omega
theorem wrap_last {n : Nat} (hp : 0 < n) (hm : n ≤ 1048576) : wrap64 ((n : Int) - 1) = ((n - 1 : Nat) : Int) := by
  unfold wrap64
  omega
set_option maxHeartbeats 1000000 in
theorem side_A (w : World) (n : NodeV) (x : SideV) (HT : Hid (Tabs w)) (HX : Hid (x.In w)) (HE : Hid (∀ W, Tabs W → OpsIn W x.A x.L → Calls Tryd.prog 45 #[edgeV x.s x.h x.A x.L.length x.c] W fun r w' => r = .returned (.int .i64 9) ∧ Below W.heap.size W w')) :
    Calls Tryd.prog 28 #[n.val, x.val] w fun r w' => (∃ b : Bool, r = .returned (.bool b) ∧ (b = true ↔ False)) ∧ Below w.heap.size w w' := by
  have HA := Lib.hid (TwoAt.new w n x)
  obtain ⟨WA, hWA⟩ : ∃ WA, WA = (w.alloc (.cells #[.int .i64 n.me, .int .i64 n.ep, .int .i64 n.up, .bool n.rd, .string n.t, .slice n.sA n.S.length n.sc, .slice n.uA n.U.length n.uc, .slice n.mA n.M.length n.mc] 28)).alloc (.cells #[.int .i64 x.p, .bool x.j, .int .i64 x.s, .int .i64 x.h, .slice x.A x.L.length x.c, .int .i64 x.k.e, .int .i64 x.k.n, .slice x.k.sA x.k.s.length x.k.sc, .slice x.k.qA x.k.q.length x.k.qc, .int .i64 x.k.h] 65) := ⟨_, rfl⟩
  rw [← hWA] at HA
  have HW := Lib.hid hWA.symm
  clear hWA
  obtain ⟨me, ep, up, rd, t, sA, sc, S, uA, uc, U, mA, mc, M⟩ := n
  obtain ⟨p, j, s, h, A, c, L, k⟩ := x
  dsimp only at *
  go_enter Tryd.func28, Tryd.ntmps28
  go_wp2_with fail
  rw [HW.out]
  refine (HE.out _ (HT.out.later HA.out.b) (HX.out.ops.later HA.out.b)).mono ?_
  rintro e w1 ⟨rfl, hb1⟩
  have H1 := Lib.hid (HA.out.later hb1)
  obtain ⟨_, x1, x2, x3, x4, x5, x6, x7, x8, x9, xz⟩ := side_cell H1.out.sd
  (try dsimp only at x1 x2 x3 x4 x5 x6 x7 x8 x9)
  clear hb1
  go_wp2_with fail
  go_ret
  exact ⟨⟨_, rfl, by simp⟩, H1.out.b⟩
set_option maxHeartbeats 1000000 in
theorem side_B (w : World) (n : NodeV) (x : SideV) (HT : Hid (Tabs w)) (HX : Hid (x.In w)) (HE : Hid (∀ W, Tabs W → OpsIn W x.A x.L → Calls Tryd.prog 45 #[edgeV x.s x.h x.A x.L.length x.c] W fun r w' => r = .returned (.int .i64 0) ∧ Below W.heap.size W w')) (HL : Hid (∀ W, Tabs W → x.k.In W → Calls Tryd.prog 64 #[x.k.val] W fun r w' => r = .returned (.int .i64 9) ∧ Below W.heap.size W w')) :
    Calls Tryd.prog 28 #[n.val, x.val] w fun r w' => (∃ b : Bool, r = .returned (.bool b) ∧ (b = true ↔ False)) ∧ Below w.heap.size w w' := by
  have HA := Lib.hid (TwoAt.new w n x)
  obtain ⟨WA, hWA⟩ : ∃ WA, WA = (w.alloc (.cells #[.int .i64 n.me, .int .i64 n.ep, .int .i64 n.up, .bool n.rd, .string n.t, .slice n.sA n.S.length n.sc, .slice n.uA n.U.length n.uc, .slice n.mA n.M.length n.mc] 28)).alloc (.cells #[.int .i64 x.p, .bool x.j, .int .i64 x.s, .int .i64 x.h, .slice x.A x.L.length x.c, .int .i64 x.k.e, .int .i64 x.k.n, .slice x.k.sA x.k.s.length x.k.sc, .slice x.k.qA x.k.q.length x.k.qc, .int .i64 x.k.h] 65) := ⟨_, rfl⟩
  rw [← hWA] at HA
  have HW := Lib.hid hWA.symm
  clear hWA
  obtain ⟨me, ep, up, rd, t, sA, sc, S, uA, uc, U, mA, mc, M⟩ := n
  obtain ⟨p, j, s, h, A, c, L, k⟩ := x
  dsimp only at *
  go_enter Tryd.func28, Tryd.ntmps28
  go_wp2_with fail
  rw [HW.out]
  refine (HE.out _ (HT.out.later HA.out.b) (HX.out.ops.later HA.out.b)).mono ?_
  rintro e w1 ⟨rfl, hb1⟩
  have H1 := Lib.hid (HA.out.later hb1)
  obtain ⟨_, x1, x2, x3, x4, x5, x6, x7, x8, x9, xz⟩ := side_cell H1.out.sd
  (try dsimp only at x1 x2 x3 x4 x5 x6 x7 x8 x9)
  clear hb1
  go_wp2_with fail
  refine (HL.out _ (HT.out.later H1.out.b) (HX.out.link.later H1.out.b)).mono ?_
  rintro e w2 ⟨rfl, hb2⟩
  have H2 := Lib.hid (H1.out.later hb2)
  clear x1 x2 x3 x4 x5 x6 x7 x8 x9 xz
  obtain ⟨_, x1, x2, x3, x4, x5, x6, x7, x8, x9, xz⟩ := side_cell H2.out.sd
  obtain ⟨_, _, _, n3, n4, _, _, _, nz⟩ := node_cell H2.out.nd
  (try dsimp only at x1 x2 x3 x4 x5 x6 x7 x8 x9 n3 n4)
  clear hb2
  go_wp2_with fail
  go_ret
  exact ⟨⟨_, rfl, by simp⟩, H2.out.b⟩
set_option maxHeartbeats 1000000 in
theorem side_C (w : World) (n : NodeV) (x : SideV) (HT : Hid (Tabs w)) (HX : Hid (x.In w)) (hj : x.j = false) (h1 : 0 ≤ x.s ∧ x.s ≤ 1048576) (h2 : 0 ≤ x.h ∧ x.h ≤ 1048576) (HE : Hid (∀ W, Tabs W → OpsIn W x.A x.L → Calls Tryd.prog 45 #[edgeV x.s x.h x.A x.L.length x.c] W fun r w' => r = .returned (.int .i64 0) ∧ Below W.heap.size W w')) (HL : Hid (∀ W, Tabs W → x.k.In W → Calls Tryd.prog 64 #[x.k.val] W fun r w' => r = .returned (.int .i64 0) ∧ Below W.heap.size W w')) :
    Calls Tryd.prog 28 #[n.val, x.val] w fun r w' => (∃ b : Bool, r = .returned (.bool b) ∧ (b = true ↔ x.s = 0 ∧ x.h = 0)) ∧ Below w.heap.size w w' := by
  have hw : wrap64 (x.s + x.h) = x.s + x.h := wrap_sum h1 h2
  have HB := Lib.hid (And.intro h1 h2)
  clear h1 h2
  have HA := Lib.hid (TwoAt.new w n x)
  obtain ⟨WA, hWA⟩ : ∃ WA, WA = (w.alloc (.cells #[.int .i64 n.me, .int .i64 n.ep, .int .i64 n.up, .bool n.rd, .string n.t, .slice n.sA n.S.length n.sc, .slice n.uA n.U.length n.uc, .slice n.mA n.M.length n.mc] 28)).alloc (.cells #[.int .i64 x.p, .bool x.j, .int .i64 x.s, .int .i64 x.h, .slice x.A x.L.length x.c, .int .i64 x.k.e, .int .i64 x.k.n, .slice x.k.sA x.k.s.length x.k.sc, .slice x.k.qA x.k.q.length x.k.qc, .int .i64 x.k.h] 65) := ⟨_, rfl⟩
  rw [← hWA] at HA
  have HW := Lib.hid hWA.symm
  clear hWA
  obtain ⟨me, ep, up, rd, t, sA, sc, S, uA, uc, U, mA, mc, M⟩ := n
  obtain ⟨p, j, s, h, A, c, L, k⟩ := x
  dsimp only at *
  subst hj
  go_enter Tryd.func28, Tryd.ntmps28
  go_wp2_with fail
  rw [HW.out]
  refine (HE.out _ (HT.out.later HA.out.b) (HX.out.ops.later HA.out.b)).mono ?_
  rintro e w1 ⟨rfl, hb1⟩
  have H1 := Lib.hid (HA.out.later hb1)
  obtain ⟨_, x1, x2, x3, x4, x5, x6, x7, x8, x9, xz⟩ := side_cell H1.out.sd
  (try dsimp only at x1 x2 x3 x4 x5 x6 x7 x8 x9)
  clear hb1
  go_wp2_with fail
  refine (HL.out _ (HT.out.later H1.out.b) (HX.out.link.later H1.out.b)).mono ?_
  rintro e w2 ⟨rfl, hb2⟩
  have H2 := Lib.hid (H1.out.later hb2)
  clear x1 x2 x3 x4 x5 x6 x7 x8 x9 xz
  obtain ⟨_, x1, x2, x3, x4, x5, x6, x7, x8, x9, xz⟩ := side_cell H2.out.sd
  obtain ⟨_, _, _, n3, n4, _, _, _, nz⟩ := node_cell H2.out.nd
  (try dsimp only at x1 x2 x3 x4 x5 x6 x7 x8 x9 n3 n4)
  clear hb2
  go_wp2_with fail
  all_goals (
    go_ret
    refine ⟨⟨_, rfl, ?_⟩, H2.out.b⟩
    have := HB.out
    simp
    omega)
set_option maxHeartbeats 1000000 in
theorem side_D (w : World) (n : NodeV) (x : SideV) (HT : Hid (Tabs w)) (HX : Hid (x.In w)) (hj : x.j = true) (he : 0 ≤ x.k.e) (_hL : decide (0 < x.L.length) = false) (HE : Hid (∀ W, Tabs W → OpsIn W x.A x.L → Calls Tryd.prog 45 #[edgeV x.s x.h x.A x.L.length x.c] W fun r w' => r = .returned (.int .i64 0) ∧ Below W.heap.size W w')) (HL : Hid (∀ W, Tabs W → x.k.In W → Calls Tryd.prog 64 #[x.k.val] W fun r w' => r = .returned (.int .i64 0) ∧ Below W.heap.size W w')) :
    Calls Tryd.prog 28 #[n.val, x.val] w fun r w' => (∃ b : Bool, r = .returned (.bool b) ∧ (b = true ↔ n.rd = true ∧ x.k.e ≠ 0)) ∧ Below w.heap.size w w' := by
  have HA := Lib.hid (TwoAt.new w n x)
  obtain ⟨WA, hWA⟩ : ∃ WA, WA = (w.alloc (.cells #[.int .i64 n.me, .int .i64 n.ep, .int .i64 n.up, .bool n.rd, .string n.t, .slice n.sA n.S.length n.sc, .slice n.uA n.U.length n.uc, .slice n.mA n.M.length n.mc] 28)).alloc (.cells #[.int .i64 x.p, .bool x.j, .int .i64 x.s, .int .i64 x.h, .slice x.A x.L.length x.c, .int .i64 x.k.e, .int .i64 x.k.n, .slice x.k.sA x.k.s.length x.k.sc, .slice x.k.qA x.k.q.length x.k.qc, .int .i64 x.k.h] 65) := ⟨_, rfl⟩
  rw [← hWA] at HA
  have HW := Lib.hid hWA.symm
  clear hWA
  obtain ⟨me, ep, up, rd, t, sA, sc, S, uA, uc, U, mA, mc, M⟩ := n
  obtain ⟨p, j, s, h, A, c, L, k⟩ := x
  dsimp only at *
  subst hj
  cases rd
  all_goals (
    go_enter Tryd.func28, Tryd.ntmps28
    go_wp2_with fail
    rw [HW.out]
    refine (HE.out _ (HT.out.later HA.out.b) (HX.out.ops.later HA.out.b)).mono ?_
    rintro e w1 ⟨rfl, hb1⟩
    have H1 := Lib.hid (HA.out.later hb1)
    obtain ⟨_, x1, x2, x3, x4, x5, x6, x7, x8, x9, xz⟩ := side_cell H1.out.sd
    (try dsimp only at x1 x2 x3 x4 x5 x6 x7 x8 x9)
    clear hb1
    go_wp2_with fail
    refine (HL.out _ (HT.out.later H1.out.b) (HX.out.link.later H1.out.b)).mono ?_
    rintro e w2 ⟨rfl, hb2⟩
    have H2 := Lib.hid (H1.out.later hb2)
    clear x1 x2 x3 x4 x5 x6 x7 x8 x9 xz
    obtain ⟨_, x1, x2, x3, x4, x5, x6, x7, x8, x9, xz⟩ := side_cell H2.out.sd
    obtain ⟨_, _, _, n3, n4, _, _, _, nz⟩ := node_cell H2.out.nd
    (try dsimp only at x1 x2 x3 x4 x5 x6 x7 x8 x9 n3 n4)
    clear hb2
    go_wp2_with fail
    all_goals (
      go_ret
      refine ⟨⟨_, rfl, ?_⟩, H2.out.b⟩
      simp_all
      try omega))
set_option maxHeartbeats 1000000 in
theorem side_E (w : World) (n : NodeV) (x : SideV) (HT : Hid (Tabs w)) (HX : Hid (x.In w)) (hj : x.j = true) (q : OpV) (HQ : Hid (x.L.getLast? = some q)) (hp : 0 < x.L.length) (hml : x.L.length ≤ 1048576) (ht : ((lens q.ps).2 != (Lib.runeCount n.t : Int)) = true) (HE : Hid (∀ W, Tabs W → OpsIn W x.A x.L → Calls Tryd.prog 45 #[edgeV x.s x.h x.A x.L.length x.c] W fun r w' => r = .returned (.int .i64 0) ∧ Below W.heap.size W w')) (HL : Hid (∀ W, Tabs W → x.k.In W → Calls Tryd.prog 64 #[x.k.val] W fun r w' => r = .returned (.int .i64 0) ∧ Below W.heap.size W w')) (HLN : Hid (∀ W, OpIn (· < W.heap.size) W q.A q.ps → Calls Tryd.prog 63 #[.slice q.A q.ps.length q.c] W fun e w' => e = .returned (.tuple #[.int .i64 (lens q.ps).1, .int .i64 (lens q.ps).2]) ∧ Below W.heap.size W w')) (HRC : Hid (∀ W, Calls Tryd.prog 29 #[.string n.t] W fun e w' => e = .returned (.int .i64 (Lib.runeCount n.t)) ∧ Below W.heap.size W w')) :
    Calls Tryd.prog 28 #[n.val, x.val] w fun r w' => (∃ b : Bool, r = .returned (.bool b) ∧ (b = true ↔ False)) ∧ Below w.heap.size w w' := by
  have hw : wrap64 ((x.L.length : Int) - 1) = ((x.L.length - 1 : Nat) : Int) := wrap_last hp hml
  have HLS := Lib.hid (fun (W : World) (hs : OpsIn W x.A x.L) => last_at hs HQ.out)
  generalize hr : (Lib.runeCount n.t : Int) = rc at *
  generalize lens q.ps = ln at *
  obtain ⟨l1, l2⟩ := ln
  clear hr
  have HA := Lib.hid (TwoAt.new w n x)
  obtain ⟨WA, hWA⟩ : ∃ WA, WA = (w.alloc (.cells #[.int .i64 n.me, .int .i64 n.ep, .int .i64 n.up, .bool n.rd, .string n.t, .slice n.sA n.S.length n.sc, .slice n.uA n.U.length n.uc, .slice n.mA n.M.length n.mc] 28)).alloc (.cells #[.int .i64 x.p, .bool x.j, .int .i64 x.s, .int .i64 x.h, .slice x.A x.L.length x.c, .int .i64 x.k.e, .int .i64 x.k.n, .slice x.k.sA x.k.s.length x.k.sc, .slice x.k.qA x.k.q.length x.k.qc, .int .i64 x.k.h] 65) := ⟨_, rfl⟩
  rw [← hWA] at HA
  have HW := Lib.hid hWA.symm
  clear hWA
  obtain ⟨me, ep, up, rd, t, sA, sc, S, uA, uc, U, mA, mc, M⟩ := n
  obtain ⟨p, j, s, h, A, c, L, k⟩ := x
  dsimp only at *
  subst hj
  go_enter Tryd.func28, Tryd.ntmps28
  go_wp2_with fail
  rw [HW.out]
  refine (HE.out _ (HT.out.later HA.out.b) (HX.out.ops.later HA.out.b)).mono ?_
  rintro e w1 ⟨rfl, hb1⟩
  have H1 := Lib.hid (HA.out.later hb1)
  obtain ⟨_, x1, x2, x3, x4, x5, x6, x7, x8, x9, xz⟩ := side_cell H1.out.sd
  (try dsimp only at x1 x2 x3 x4 x5 x6 x7 x8 x9)
  clear hb1
  go_wp2_with fail
  refine (HL.out _ (HT.out.later H1.out.b) (HX.out.link.later H1.out.b)).mono ?_
  rintro e w2 ⟨rfl, hb2⟩
  have H2 := Lib.hid (H1.out.later hb2)
  clear x1 x2 x3 x4 x5 x6 x7 x8 x9 xz
  obtain ⟨_, x1, x2, x3, x4, x5, x6, x7, x8, x9, xz⟩ := side_cell H2.out.sd
  obtain ⟨_, _, _, n3, n4, _, _, _, nz⟩ := node_cell H2.out.nd
  (try dsimp only at x1 x2 x3 x4 x5 x6 x7 x8 x9 n3 n4)
  clear hb2
  have HO := Lib.hid (HX.out.ops.later H2.out.b)
  obtain ⟨b, o, hAe, hbs, c0, hop⟩ := HLS.out _ HO.out
  subst hAe
  have HOP := Lib.hid hop
  clear hop
  go_wp2_with fail
  refine (HLN.out _ HOP.out).mono ?_
  rintro e w3 ⟨rfl, hb3⟩
  have H3 := Lib.hid (H2.out.later hb3)
  clear x1 x2 x3 x4 x5 x6 x7 x8 x9 xz n3 n4 nz
  obtain ⟨_, x1, x2, x3, x4, x5, x6, x7, x8, x9, xz⟩ := side_cell H3.out.sd
  obtain ⟨_, _, _, n3, n4, _, _, _, nz⟩ := node_cell H3.out.nd
  (try dsimp only at x1 x2 x3 x4 x5 x6 x7 x8 x9 n3 n4)
  clear hb3
  go_wp2_with fail
  refine (HRC.out _).mono ?_
  rintro e w4 ⟨rfl, hb4⟩
  have H4 := Lib.hid (H3.out.later hb4)
  clear x1 x2 x3 x4 x5 x6 x7 x8 x9 xz n3 n4 nz
  obtain ⟨_, x1, x2, x3, x4, x5, x6, x7, x8, x9, xz⟩ := side_cell H4.out.sd
  obtain ⟨_, _, _, n3, n4, _, _, _, nz⟩ := node_cell H4.out.nd
  (try dsimp only at x1 x2 x3 x4 x5 x6 x7 x8 x9 n3 n4)
  clear hb4
  go_wp2_with fail
  go_ret
  exact ⟨⟨_, rfl, by simp⟩, H4.out.b⟩
set_option maxHeartbeats 1000000 in
theorem side_F (w : World) (n : NodeV) (x : SideV) (HT : Hid (Tabs w)) (HX : Hid (x.In w)) (hj : x.j = true) (he : 0 ≤ x.k.e) (q : OpV) (HQ : Hid (x.L.getLast? = some q)) (hp : 0 < x.L.length) (hml : x.L.length ≤ 1048576) (ht : ((lens q.ps).2 != (Lib.runeCount n.t : Int)) = false) (HE : Hid (∀ W, Tabs W → OpsIn W x.A x.L → Calls Tryd.prog 45 #[edgeV x.s x.h x.A x.L.length x.c] W fun r w' => r = .returned (.int .i64 0) ∧ Below W.heap.size W w')) (HL : Hid (∀ W, Tabs W → x.k.In W → Calls Tryd.prog 64 #[x.k.val] W fun r w' => r = .returned (.int .i64 0) ∧ Below W.heap.size W w')) (HLN : Hid (∀ W, OpIn (· < W.heap.size) W q.A q.ps → Calls Tryd.prog 63 #[.slice q.A q.ps.length q.c] W fun e w' => e = .returned (.tuple #[.int .i64 (lens q.ps).1, .int .i64 (lens q.ps).2]) ∧ Below W.heap.size W w')) (HRC : Hid (∀ W, Calls Tryd.prog 29 #[.string n.t] W fun e w' => e = .returned (.int .i64 (Lib.runeCount n.t)) ∧ Below W.heap.size W w')) :
    Calls Tryd.prog 28 #[n.val, x.val] w fun r w' => (∃ b : Bool, r = .returned (.bool b) ∧ (b = true ↔ n.rd = true ∧ x.k.e ≠ 0)) ∧ Below w.heap.size w w' := by
  have hw : wrap64 ((x.L.length : Int) - 1) = ((x.L.length - 1 : Nat) : Int) := wrap_last hp hml
  have HLS := Lib.hid (fun (W : World) (hs : OpsIn W x.A x.L) => last_at hs HQ.out)
  generalize hr : (Lib.runeCount n.t : Int) = rc at *
  generalize lens q.ps = ln at *
  obtain ⟨l1, l2⟩ := ln
  clear hr
  have HA := Lib.hid (TwoAt.new w n x)
  obtain ⟨WA, hWA⟩ : ∃ WA, WA = (w.alloc (.cells #[.int .i64 n.me, .int .i64 n.ep, .int .i64 n.up, .bool n.rd, .string n.t, .slice n.sA n.S.length n.sc, .slice n.uA n.U.length n.uc, .slice n.mA n.M.length n.mc] 28)).alloc (.cells #[.int .i64 x.p, .bool x.j, .int .i64 x.s, .int .i64 x.h, .slice x.A x.L.length x.c, .int .i64 x.k.e, .int .i64 x.k.n, .slice x.k.sA x.k.s.length x.k.sc, .slice x.k.qA x.k.q.length x.k.qc, .int .i64 x.k.h] 65) := ⟨_, rfl⟩
  rw [← hWA] at HA
  have HW := Lib.hid hWA.symm
  clear hWA
  obtain ⟨me, ep, up, rd, t, sA, sc, S, uA, uc, U, mA, mc, M⟩ := n
  obtain ⟨p, j, s, h, A, c, L, k⟩ := x
  dsimp only at *
  subst hj
  go_enter Tryd.func28, Tryd.ntmps28
  go_wp2_with fail
  rw [HW.out]
  refine (HE.out _ (HT.out.later HA.out.b) (HX.out.ops.later HA.out.b)).mono ?_
  rintro e w1 ⟨rfl, hb1⟩
  have H1 := Lib.hid (HA.out.later hb1)
  obtain ⟨_, x1, x2, x3, x4, x5, x6, x7, x8, x9, xz⟩ := side_cell H1.out.sd
  (try dsimp only at x1 x2 x3 x4 x5 x6 x7 x8 x9)
  clear hb1
  go_wp2_with fail
  refine (HL.out _ (HT.out.later H1.out.b) (HX.out.link.later H1.out.b)).mono ?_
  rintro e w2 ⟨rfl, hb2⟩
  have H2 := Lib.hid (H1.out.later hb2)
  clear x1 x2 x3 x4 x5 x6 x7 x8 x9 xz
  obtain ⟨_, x1, x2, x3, x4, x5, x6, x7, x8, x9, xz⟩ := side_cell H2.out.sd
  obtain ⟨_, _, _, n3, n4, _, _, _, nz⟩ := node_cell H2.out.nd
  (try dsimp only at x1 x2 x3 x4 x5 x6 x7 x8 x9 n3 n4)
  clear hb2
  have HO := Lib.hid (HX.out.ops.later H2.out.b)
  obtain ⟨b, o, hAe, hbs, c0, hop⟩ := HLS.out _ HO.out
  subst hAe
  have HOP := Lib.hid hop
  clear hop
  go_wp2_with fail
  refine (HLN.out _ HOP.out).mono ?_
  rintro e w3 ⟨rfl, hb3⟩
  have H3 := Lib.hid (H2.out.later hb3)
  clear x1 x2 x3 x4 x5 x6 x7 x8 x9 xz n3 n4 nz
  obtain ⟨_, x1, x2, x3, x4, x5, x6, x7, x8, x9, xz⟩ := side_cell H3.out.sd
  obtain ⟨_, _, _, n3, n4, _, _, _, nz⟩ := node_cell H3.out.nd
  (try dsimp only at x1 x2 x3 x4 x5 x6 x7 x8 x9 n3 n4)
  clear hb3
  go_wp2_with fail
  refine (HRC.out _).mono ?_
  rintro e w4 ⟨rfl, hb4⟩
  have H4 := Lib.hid (H3.out.later hb4)
  clear x1 x2 x3 x4 x5 x6 x7 x8 x9 xz n3 n4 nz
  obtain ⟨_, x1, x2, x3, x4, x5, x6, x7, x8, x9, xz⟩ := side_cell H4.out.sd
  obtain ⟨_, _, _, n3, n4, _, _, _, nz⟩ := node_cell H4.out.nd
  (try dsimp only at x1 x2 x3 x4 x5 x6 x7 x8 x9 n3 n4)
  clear hb4
  go_wp2_with fail
  all_goals (
    go_ret
    refine ⟨⟨_, rfl, ?_⟩, H4.out.b⟩
    simp_all
    try omega)
theorem side_c (w : World) (n : NodeV) (x : SideV) (hT : Tabs w) (hx : x.In w) (hm : x.Small) (ht : n.t.size ≤ 1048576) :
    Calls Tryd.prog 28 #[n.val, x.val] w fun r w' => (∃ b : Bool, r = .returned (.bool b) ∧ (b = true ↔ sideMay n.rd (runesI n.t) x)) ∧ Below w.heap.size w w' := by
  have HE := fun W hT hs => EdgeCheck_c W x.s x.h x.A x.c x.L hT hs hm.ops
  have HL := fun W hT hs => LinkCheck_c W x.k hT hs hm.link
  unfold sideMay
  by_cases h1 : edgeMay x.s x.h x.L
  · rw [show edgeErr x.s x.h x.L = 0 from if_pos h1] at HE
    have h1' := h1
    by_cases h2 : linkMay x.k
    · rw [if_pos h2] at HL
      obtain ⟨⟨⟨a1, a2⟩, a3, a4⟩, _⟩ := h1'
      have he : 0 ≤ x.k.e := h2.1.1.1
      by_cases hj : x.j = false
      · rw [if_pos hj]
        refine (side_C w n x hT hx hj ⟨a1, a2⟩ ⟨a3, a4⟩ HE HL).mono fun _ _ ⟨⟨b, e, k⟩, hb⟩ => ⟨⟨b, e, k.trans ⟨fun q => ⟨⟨h1, h2⟩, q⟩, fun q => q.2⟩⟩, hb⟩
      · rw [if_neg hj]
        have hj' : x.j = true := by simpa using hj
        cases hl : x.L.getLast? with
        | none =>
          have hL : x.L = [] := by simpa using hl
          refine (side_D w n x hT hx hj' he (by rw [hL]; rfl) HE HL).mono fun _ _ ⟨⟨b, e, k⟩, hb⟩ => ⟨⟨b, e, k.trans ⟨fun q => ⟨⟨h1, h2⟩, by rw [hL]; exact lastFits_nil, q⟩, fun q => q.2.2⟩⟩, hb⟩
        | some q =>
          have hq : q ∈ x.L := List.mem_of_getLast? hl
          have HLN := fun W hs => Lengths_c W q.A q.c q.ps hs (hm.ops q hq).len (hm.ops q hq).text
          have hf := lastFits_some (r := runesI n.t) hl
          by_cases hr : (lens q.ps).2 = runesI n.t
          · refine (side_F w n x hT hx hj' he q hl (last_pos hl) hm.len (by unfold runesI at hr; simpa using hr) HE HL HLN (fun W => runeCount_c n.t W ht)).mono fun _ _ ⟨⟨b, e, k⟩, hb⟩ => ⟨⟨b, e, k.trans ⟨fun q => ⟨⟨h1, h2⟩, hf.2 hr, q⟩, fun q => q.2.2⟩⟩, hb⟩
          · refine (side_E w n x hT hx hj' q hl (last_pos hl) hm.len (by unfold runesI at hr; simpa using hr) HE HL HLN (fun W => runeCount_c n.t W ht)).mono fun _ _ ⟨⟨b, e, k⟩, hb⟩ => ⟨⟨b, e, k.trans ⟨fun q => q.elim, fun q => hr (hf.1 q.2.1)⟩⟩, hb⟩
    · rw [if_neg h2] at HL
      exact (side_B w n x hT hx HE HL).mono fun _ _ ⟨⟨b, e, k⟩, hb⟩ => ⟨⟨b, e, k.trans ⟨fun q => q.elim, fun q => h2 q.1.2⟩⟩, hb⟩
  · rw [show edgeErr x.s x.h x.L = 9 from if_neg h1] at HE
    exact (side_A w n x hT hx HE).mono fun _ _ ⟨⟨b, e, k⟩, hb⟩ => ⟨⟨b, e, k.trans ⟨fun q => q.elim, fun q => h1 q.1.1⟩⟩, hb⟩
end Go.Proofs.YtbmdepbmejnlkaaDoor
