/-
  Contracts of the reference's runes and sideMay.
-/
import Derived.Test.YtbmdepbmejnlkaaDoorRows
import Derived.Test.YtbmdepbmejnlkaaDoorSide
import Derived.Test.YtbmdepbmejnlkaaDoorLinkF
namespace Go.Proofs.YtbmdepbmejnlkaaDoor
open Go.ChangeShapes Go.WideShapes Go.ChangeAt Go.RowKit
set_option maxRecDepth 100000
theorem runes_c (s : ByteArray) (w : World) (hs : s.size ≤ 1048576) :
    Calls Tryd.prog 34 #[.string s] w fun e w' => e = .returned (.int .i64 (Lib.runeCount s)) ∧ Below w.heap.size w w' := by
  have hcv := fun wx => convRunes (w := wx) hs
  go_enter Tryd.func34, Tryd.ntmps34
  go_wp2_with fail
  go_ret
  exact ⟨rfl, (by repeat (first | exact Below.refl _ _ | apply bGrow | apply bAlloc | apply Below.drew | apply bDrewN | apply bIter))⟩
set_option maxHeartbeats 1000000 in
theorem sideMay_A (w : World) (n : NodeV) (x : SideV) (HT : Hid (Tabs w)) (HX : Hid (x.In w)) (HE : Hid (∀ W, Tabs W → OpsIn W x.A x.L → Calls Tryd.prog 50 #[edgeV x.s x.h x.A x.L.length x.c] W fun r w' => r = .returned (.bool false) ∧ Below W.heap.size W w')) :
    Calls Tryd.prog 37 #[n.val, x.val] w fun r w' => (∃ b : Bool, r = .returned (.bool b) ∧ (b = true ↔ False)) ∧ Below w.heap.size w w' := by
  have HA := Lib.hid (TwoAt.new w n x)
  obtain ⟨WA, hWA⟩ : ∃ WA, WA = (w.alloc (.cells #[.int .i64 n.me, .int .i64 n.ep, .int .i64 n.up, .bool n.rd, .string n.t, .slice n.sA n.S.length n.sc, .slice n.uA n.U.length n.uc, .slice n.mA n.M.length n.mc] 28)).alloc (.cells #[.int .i64 x.p, .bool x.j, .int .i64 x.s, .int .i64 x.h, .slice x.A x.L.length x.c, .int .i64 x.k.e, .int .i64 x.k.n, .slice x.k.sA x.k.s.length x.k.sc, .slice x.k.qA x.k.q.length x.k.qc, .int .i64 x.k.h] 65) := ⟨_, rfl⟩
  rw [← hWA] at HA
  have HW := Lib.hid hWA.symm
  clear hWA
  obtain ⟨me, ep, up, rd, t, sA, sc, S, uA, uc, U, mA, mc, M⟩ := n
  obtain ⟨p, j, s, h, A, c, L, k⟩ := x
  dsimp only at *
  go_enter Tryd.func37, Tryd.ntmps37
  go_wp2_with fail
  rw [HW.out]
  refine (HE.out _ (HT.out.later HA.out.b) (HX.out.ops.later HA.out.b)).mono ?_
  rintro e w1 ⟨rfl, hb1⟩
  have H1 := Lib.hid (HA.out.later hb1)
  obtain ⟨_, x1, x2, x3, x4, x5, x6, x7, x8, x9, xz⟩ := side_cell H1.out.sd
  (try dsimp only at x1 x2 x3 x4 x5 x6 x7 x8 x9)
  clear hb1
  go_wp2_with fail
  go_ret
  exact ⟨⟨_, rfl, by simp⟩, H1.out.b⟩
set_option maxHeartbeats 1000000 in
theorem sideMay_B (w : World) (n : NodeV) (x : SideV) (HT : Hid (Tabs w)) (HX : Hid (x.In w)) (HE : Hid (∀ W, Tabs W → OpsIn W x.A x.L → Calls Tryd.prog 50 #[edgeV x.s x.h x.A x.L.length x.c] W fun r w' => r = .returned (.bool true) ∧ Below W.heap.size W w')) (HL : Hid (∀ W, Tabs W → x.k.In W → Calls Tryd.prog 66 #[x.k.val] W fun r w' => r = .returned (.bool false) ∧ Below W.heap.size W w')) :
    Calls Tryd.prog 37 #[n.val, x.val] w fun r w' => (∃ b : Bool, r = .returned (.bool b) ∧ (b = true ↔ False)) ∧ Below w.heap.size w w' := by
  have HA := Lib.hid (TwoAt.new w n x)
  obtain ⟨WA, hWA⟩ : ∃ WA, WA = (w.alloc (.cells #[.int .i64 n.me, .int .i64 n.ep, .int .i64 n.up, .bool n.rd, .string n.t, .slice n.sA n.S.length n.sc, .slice n.uA n.U.length n.uc, .slice n.mA n.M.length n.mc] 28)).alloc (.cells #[.int .i64 x.p, .bool x.j, .int .i64 x.s, .int .i64 x.h, .slice x.A x.L.length x.c, .int .i64 x.k.e, .int .i64 x.k.n, .slice x.k.sA x.k.s.length x.k.sc, .slice x.k.qA x.k.q.length x.k.qc, .int .i64 x.k.h] 65) := ⟨_, rfl⟩
  rw [← hWA] at HA
  have HW := Lib.hid hWA.symm
  clear hWA
  obtain ⟨me, ep, up, rd, t, sA, sc, S, uA, uc, U, mA, mc, M⟩ := n
  obtain ⟨p, j, s, h, A, c, L, k⟩ := x
  dsimp only at *
  go_enter Tryd.func37, Tryd.ntmps37
  go_wp2_with fail
  rw [HW.out]
  refine (HE.out _ (HT.out.later HA.out.b) (HX.out.ops.later HA.out.b)).mono ?_
  rintro e w1 ⟨rfl, hb1⟩
  have H1 := Lib.hid (HA.out.later hb1)
  obtain ⟨_, x1, x2, x3, x4, x5, x6, x7, x8, x9, xz⟩ := side_cell H1.out.sd
  (try dsimp only at x1 x2 x3 x4 x5 x6 x7 x8 x9)
  clear hb1
  go_wp2_with fail
  refine (HL.out _ (HT.out.later H1.out.b) (HX.out.link.later H1.out.b)).mono ?_
  rintro e w2 ⟨rfl, hb2⟩
  have H2 := Lib.hid (H1.out.later hb2)
  clear x1 x2 x3 x4 x5 x6 x7 x8 x9 xz
  obtain ⟨_, x1, x2, x3, x4, x5, x6, x7, x8, x9, xz⟩ := side_cell H2.out.sd
  obtain ⟨_, _, _, n3, n4, _, _, _, nz⟩ := node_cell H2.out.nd
  (try dsimp only at x1 x2 x3 x4 x5 x6 x7 x8 x9 n3 n4)
  clear hb2
  go_wp2_with fail
  go_ret
  exact ⟨⟨_, rfl, by simp⟩, H2.out.b⟩
set_option maxHeartbeats 1000000 in
theorem sideMay_C (w : World) (n : NodeV) (x : SideV) (HT : Hid (Tabs w)) (HX : Hid (x.In w)) (hj : x.j = false) (HE : Hid (∀ W, Tabs W → OpsIn W x.A x.L → Calls Tryd.prog 50 #[edgeV x.s x.h x.A x.L.length x.c] W fun r w' => r = .returned (.bool true) ∧ Below W.heap.size W w')) (HL : Hid (∀ W, Tabs W → x.k.In W → Calls Tryd.prog 66 #[x.k.val] W fun r w' => r = .returned (.bool true) ∧ Below W.heap.size W w')) :
    Calls Tryd.prog 37 #[n.val, x.val] w fun r w' => (∃ b : Bool, r = .returned (.bool b) ∧ (b = true ↔ x.s = 0 ∧ x.h = 0)) ∧ Below w.heap.size w w' := by
  have HA := Lib.hid (TwoAt.new w n x)
  obtain ⟨WA, hWA⟩ : ∃ WA, WA = (w.alloc (.cells #[.int .i64 n.me, .int .i64 n.ep, .int .i64 n.up, .bool n.rd, .string n.t, .slice n.sA n.S.length n.sc, .slice n.uA n.U.length n.uc, .slice n.mA n.M.length n.mc] 28)).alloc (.cells #[.int .i64 x.p, .bool x.j, .int .i64 x.s, .int .i64 x.h, .slice x.A x.L.length x.c, .int .i64 x.k.e, .int .i64 x.k.n, .slice x.k.sA x.k.s.length x.k.sc, .slice x.k.qA x.k.q.length x.k.qc, .int .i64 x.k.h] 65) := ⟨_, rfl⟩
  rw [← hWA] at HA
  have HW := Lib.hid hWA.symm
  clear hWA
  obtain ⟨me, ep, up, rd, t, sA, sc, S, uA, uc, U, mA, mc, M⟩ := n
  obtain ⟨p, j, s, h, A, c, L, k⟩ := x
  dsimp only at *
  subst hj
  go_enter Tryd.func37, Tryd.ntmps37
  go_wp2_with fail
  rw [HW.out]
  refine (HE.out _ (HT.out.later HA.out.b) (HX.out.ops.later HA.out.b)).mono ?_
  rintro e w1 ⟨rfl, hb1⟩
  have H1 := Lib.hid (HA.out.later hb1)
  obtain ⟨_, x1, x2, x3, x4, x5, x6, x7, x8, x9, xz⟩ := side_cell H1.out.sd
  (try dsimp only at x1 x2 x3 x4 x5 x6 x7 x8 x9)
  clear hb1
  go_wp2_with fail
  refine (HL.out _ (HT.out.later H1.out.b) (HX.out.link.later H1.out.b)).mono ?_
  rintro e w2 ⟨rfl, hb2⟩
  have H2 := Lib.hid (H1.out.later hb2)
  clear x1 x2 x3 x4 x5 x6 x7 x8 x9 xz
  obtain ⟨_, x1, x2, x3, x4, x5, x6, x7, x8, x9, xz⟩ := side_cell H2.out.sd
  obtain ⟨_, _, _, n3, n4, _, _, _, nz⟩ := node_cell H2.out.nd
  (try dsimp only at x1 x2 x3 x4 x5 x6 x7 x8 x9 n3 n4)
  clear hb2
  go_wp2_with fail
  all_goals (
    go_ret
    refine ⟨⟨_, rfl, ?_⟩, H2.out.b⟩
    simp_all)
set_option maxHeartbeats 1000000 in
theorem sideMay_D (w : World) (n : NodeV) (x : SideV) (HT : Hid (Tabs w)) (HX : Hid (x.In w)) (hj : x.j = true) (_hL : decide (0 < x.L.length) = false) (HE : Hid (∀ W, Tabs W → OpsIn W x.A x.L → Calls Tryd.prog 50 #[edgeV x.s x.h x.A x.L.length x.c] W fun r w' => r = .returned (.bool true) ∧ Below W.heap.size W w')) (HL : Hid (∀ W, Tabs W → x.k.In W → Calls Tryd.prog 66 #[x.k.val] W fun r w' => r = .returned (.bool true) ∧ Below W.heap.size W w')) :
    Calls Tryd.prog 37 #[n.val, x.val] w fun r w' => (∃ b : Bool, r = .returned (.bool b) ∧ (b = true ↔ n.rd = true ∧ x.k.e ≠ 0)) ∧ Below w.heap.size w w' := by
  have HA := Lib.hid (TwoAt.new w n x)
  obtain ⟨WA, hWA⟩ : ∃ WA, WA = (w.alloc (.cells #[.int .i64 n.me, .int .i64 n.ep, .int .i64 n.up, .bool n.rd, .string n.t, .slice n.sA n.S.length n.sc, .slice n.uA n.U.length n.uc, .slice n.mA n.M.length n.mc] 28)).alloc (.cells #[.int .i64 x.p, .bool x.j, .int .i64 x.s, .int .i64 x.h, .slice x.A x.L.length x.c, .int .i64 x.k.e, .int .i64 x.k.n, .slice x.k.sA x.k.s.length x.k.sc, .slice x.k.qA x.k.q.length x.k.qc, .int .i64 x.k.h] 65) := ⟨_, rfl⟩
  rw [← hWA] at HA
  have HW := Lib.hid hWA.symm
  clear hWA
  obtain ⟨me, ep, up, rd, t, sA, sc, S, uA, uc, U, mA, mc, M⟩ := n
  obtain ⟨p, j, s, h, A, c, L, k⟩ := x
  dsimp only at *
  subst hj
  cases rd
  all_goals (
    go_enter Tryd.func37, Tryd.ntmps37
    go_wp2_with fail
    rw [HW.out]
    refine (HE.out _ (HT.out.later HA.out.b) (HX.out.ops.later HA.out.b)).mono ?_
    rintro e w1 ⟨rfl, hb1⟩
    have H1 := Lib.hid (HA.out.later hb1)
    obtain ⟨_, x1, x2, x3, x4, x5, x6, x7, x8, x9, xz⟩ := side_cell H1.out.sd
    (try dsimp only at x1 x2 x3 x4 x5 x6 x7 x8 x9)
    clear hb1
    go_wp2_with fail
    refine (HL.out _ (HT.out.later H1.out.b) (HX.out.link.later H1.out.b)).mono ?_
    rintro e w2 ⟨rfl, hb2⟩
    have H2 := Lib.hid (H1.out.later hb2)
    clear x1 x2 x3 x4 x5 x6 x7 x8 x9 xz
    obtain ⟨_, x1, x2, x3, x4, x5, x6, x7, x8, x9, xz⟩ := side_cell H2.out.sd
    obtain ⟨_, _, _, n3, n4, _, _, _, nz⟩ := node_cell H2.out.nd
    (try dsimp only at x1 x2 x3 x4 x5 x6 x7 x8 x9 n3 n4)
    clear hb2
    go_wp2_with fail
    all_goals (
      go_ret
      refine ⟨⟨_, rfl, ?_⟩, H2.out.b⟩
      simp_all
      try omega))
set_option maxHeartbeats 1000000 in
theorem sideMay_E (w : World) (n : NodeV) (x : SideV) (HT : Hid (Tabs w)) (HX : Hid (x.In w)) (hj : x.j = true) (q : OpV) (HQ : Hid (x.L.getLast? = some q)) (hp : 0 < x.L.length) (hml : x.L.length ≤ 1048576) (ht : ((lens q.ps).2 != (Lib.runeCount n.t : Int)) = true) (HE : Hid (∀ W, Tabs W → OpsIn W x.A x.L → Calls Tryd.prog 50 #[edgeV x.s x.h x.A x.L.length x.c] W fun r w' => r = .returned (.bool true) ∧ Below W.heap.size W w')) (HL : Hid (∀ W, Tabs W → x.k.In W → Calls Tryd.prog 66 #[x.k.val] W fun r w' => r = .returned (.bool true) ∧ Below W.heap.size W w')) (HLN : Hid (∀ W, OpIn (· < W.heap.size) W q.A q.ps → Calls Tryd.prog 35 #[.slice q.A q.ps.length q.c] W fun e w' => e = .returned (.tuple #[.int .i64 (lens q.ps).1, .int .i64 (lens q.ps).2]) ∧ Below W.heap.size W w')) (HRC : Hid (∀ W, Calls Tryd.prog 34 #[.string n.t] W fun e w' => e = .returned (.int .i64 (Lib.runeCount n.t)) ∧ Below W.heap.size W w')) :
    Calls Tryd.prog 37 #[n.val, x.val] w fun r w' => (∃ b : Bool, r = .returned (.bool b) ∧ (b = true ↔ False)) ∧ Below w.heap.size w w' := by
  have hw : wrap64 ((x.L.length : Int) - 1) = ((x.L.length - 1 : Nat) : Int) := wrap_last hp hml
  have HLS := Lib.hid (fun (W : World) (hs : OpsIn W x.A x.L) => last_at hs HQ.out)
  generalize hr : (Lib.runeCount n.t : Int) = rc at *
  generalize lens q.ps = ln at *
  obtain ⟨l1, l2⟩ := ln
  clear hr
  have HA := Lib.hid (TwoAt.new w n x)
  obtain ⟨WA, hWA⟩ : ∃ WA, WA = (w.alloc (.cells #[.int .i64 n.me, .int .i64 n.ep, .int .i64 n.up, .bool n.rd, .string n.t, .slice n.sA n.S.length n.sc, .slice n.uA n.U.length n.uc, .slice n.mA n.M.length n.mc] 28)).alloc (.cells #[.int .i64 x.p, .bool x.j, .int .i64 x.s, .int .i64 x.h, .slice x.A x.L.length x.c, .int .i64 x.k.e, .int .i64 x.k.n, .slice x.k.sA x.k.s.length x.k.sc, .slice x.k.qA x.k.q.length x.k.qc, .int .i64 x.k.h] 65) := ⟨_, rfl⟩
  rw [← hWA] at HA
  have HW := Lib.hid hWA.symm
  clear hWA
  obtain ⟨me, ep, up, rd, t, sA, sc, S, uA, uc, U, mA, mc, M⟩ := n
  obtain ⟨p, j, s, h, A, c, L, k⟩ := x
  dsimp only at *
  subst hj
  go_enter Tryd.func37, Tryd.ntmps37
  go_wp2_with fail
  rw [HW.out]
  refine (HE.out _ (HT.out.later HA.out.b) (HX.out.ops.later HA.out.b)).mono ?_
  rintro e w1 ⟨rfl, hb1⟩
  have H1 := Lib.hid (HA.out.later hb1)
  obtain ⟨_, x1, x2, x3, x4, x5, x6, x7, x8, x9, xz⟩ := side_cell H1.out.sd
  (try dsimp only at x1 x2 x3 x4 x5 x6 x7 x8 x9)
  clear hb1
  go_wp2_with fail
  refine (HL.out _ (HT.out.later H1.out.b) (HX.out.link.later H1.out.b)).mono ?_
  rintro e w2 ⟨rfl, hb2⟩
  have H2 := Lib.hid (H1.out.later hb2)
  clear x1 x2 x3 x4 x5 x6 x7 x8 x9 xz
  obtain ⟨_, x1, x2, x3, x4, x5, x6, x7, x8, x9, xz⟩ := side_cell H2.out.sd
  obtain ⟨_, _, _, n3, n4, _, _, _, nz⟩ := node_cell H2.out.nd
  (try dsimp only at x1 x2 x3 x4 x5 x6 x7 x8 x9 n3 n4)
  clear hb2
  have HO := Lib.hid (HX.out.ops.later H2.out.b)
  obtain ⟨b, o, hAe, hbs, c0, hop⟩ := HLS.out _ HO.out
  subst hAe
  have HOP := Lib.hid hop
  clear hop
  go_wp2_with fail
  refine (HLN.out _ HOP.out).mono ?_
  rintro e w3 ⟨rfl, hb3⟩
  have H3 := Lib.hid (H2.out.later hb3)
  clear x1 x2 x3 x4 x5 x6 x7 x8 x9 xz n3 n4 nz
  obtain ⟨_, x1, x2, x3, x4, x5, x6, x7, x8, x9, xz⟩ := side_cell H3.out.sd
  obtain ⟨_, _, _, n3, n4, _, _, _, nz⟩ := node_cell H3.out.nd
  (try dsimp only at x1 x2 x3 x4 x5 x6 x7 x8 x9 n3 n4)
  clear hb3
  go_wp2_with fail
  refine (HRC.out _).mono ?_
  rintro e w4 ⟨rfl, hb4⟩
  have H4 := Lib.hid (H3.out.later hb4)
  clear x1 x2 x3 x4 x5 x6 x7 x8 x9 xz n3 n4 nz
  obtain ⟨_, x1, x2, x3, x4, x5, x6, x7, x8, x9, xz⟩ := side_cell H4.out.sd
  obtain ⟨_, _, _, n3, n4, _, _, _, nz⟩ := node_cell H4.out.nd
  (try dsimp only at x1 x2 x3 x4 x5 x6 x7 x8 x9 n3 n4)
  clear hb4
  go_wp2_with fail
  go_ret
  exact ⟨⟨_, rfl, by simp⟩, H4.out.b⟩
set_option maxHeartbeats 1000000 in
theorem sideMay_F (w : World) (n : NodeV) (x : SideV) (HT : Hid (Tabs w)) (HX : Hid (x.In w)) (hj : x.j = true) (q : OpV) (HQ : Hid (x.L.getLast? = some q)) (hp : 0 < x.L.length) (hml : x.L.length ≤ 1048576) (ht : ((lens q.ps).2 != (Lib.runeCount n.t : Int)) = false) (HE : Hid (∀ W, Tabs W → OpsIn W x.A x.L → Calls Tryd.prog 50 #[edgeV x.s x.h x.A x.L.length x.c] W fun r w' => r = .returned (.bool true) ∧ Below W.heap.size W w')) (HL : Hid (∀ W, Tabs W → x.k.In W → Calls Tryd.prog 66 #[x.k.val] W fun r w' => r = .returned (.bool true) ∧ Below W.heap.size W w')) (HLN : Hid (∀ W, OpIn (· < W.heap.size) W q.A q.ps → Calls Tryd.prog 35 #[.slice q.A q.ps.length q.c] W fun e w' => e = .returned (.tuple #[.int .i64 (lens q.ps).1, .int .i64 (lens q.ps).2]) ∧ Below W.heap.size W w')) (HRC : Hid (∀ W, Calls Tryd.prog 34 #[.string n.t] W fun e w' => e = .returned (.int .i64 (Lib.runeCount n.t)) ∧ Below W.heap.size W w')) :
    Calls Tryd.prog 37 #[n.val, x.val] w fun r w' => (∃ b : Bool, r = .returned (.bool b) ∧ (b = true ↔ n.rd = true ∧ x.k.e ≠ 0)) ∧ Below w.heap.size w w' := by
  have hw : wrap64 ((x.L.length : Int) - 1) = ((x.L.length - 1 : Nat) : Int) := wrap_last hp hml
  have HLS := Lib.hid (fun (W : World) (hs : OpsIn W x.A x.L) => last_at hs HQ.out)
  generalize hr : (Lib.runeCount n.t : Int) = rc at *
  generalize lens q.ps = ln at *
  obtain ⟨l1, l2⟩ := ln
  clear hr
  have HA := Lib.hid (TwoAt.new w n x)
  obtain ⟨WA, hWA⟩ : ∃ WA, WA = (w.alloc (.cells #[.int .i64 n.me, .int .i64 n.ep, .int .i64 n.up, .bool n.rd, .string n.t, .slice n.sA n.S.length n.sc, .slice n.uA n.U.length n.uc, .slice n.mA n.M.length n.mc] 28)).alloc (.cells #[.int .i64 x.p, .bool x.j, .int .i64 x.s, .int .i64 x.h, .slice x.A x.L.length x.c, .int .i64 x.k.e, .int .i64 x.k.n, .slice x.k.sA x.k.s.length x.k.sc, .slice x.k.qA x.k.q.length x.k.qc, .int .i64 x.k.h] 65) := ⟨_, rfl⟩
  rw [← hWA] at HA
  have HW := Lib.hid hWA.symm
  clear hWA
  obtain ⟨me, ep, up, rd, t, sA, sc, S, uA, uc, U, mA, mc, M⟩ := n
  obtain ⟨p, j, s, h, A, c, L, k⟩ := x
  dsimp only at *
  subst hj
  go_enter Tryd.func37, Tryd.ntmps37
  go_wp2_with fail
  rw [HW.out]
  refine (HE.out _ (HT.out.later HA.out.b) (HX.out.ops.later HA.out.b)).mono ?_
  rintro e w1 ⟨rfl, hb1⟩
  have H1 := Lib.hid (HA.out.later hb1)
  obtain ⟨_, x1, x2, x3, x4, x5, x6, x7, x8, x9, xz⟩ := side_cell H1.out.sd
  (try dsimp only at x1 x2 x3 x4 x5 x6 x7 x8 x9)
  clear hb1
  go_wp2_with fail
  refine (HL.out _ (HT.out.later H1.out.b) (HX.out.link.later H1.out.b)).mono ?_
  rintro e w2 ⟨rfl, hb2⟩
  have H2 := Lib.hid (H1.out.later hb2)
  clear x1 x2 x3 x4 x5 x6 x7 x8 x9 xz
  obtain ⟨_, x1, x2, x3, x4, x5, x6, x7, x8, x9, xz⟩ := side_cell H2.out.sd
  obtain ⟨_, _, _, n3, n4, _, _, _, nz⟩ := node_cell H2.out.nd
  (try dsimp only at x1 x2 x3 x4 x5 x6 x7 x8 x9 n3 n4)
  clear hb2
  have HO := Lib.hid (HX.out.ops.later H2.out.b)
  obtain ⟨b, o, hAe, hbs, c0, hop⟩ := HLS.out _ HO.out
  subst hAe
  have HOP := Lib.hid hop
  clear hop
  go_wp2_with fail
  refine (HLN.out _ HOP.out).mono ?_
  rintro e w3 ⟨rfl, hb3⟩
  have H3 := Lib.hid (H2.out.later hb3)
  clear x1 x2 x3 x4 x5 x6 x7 x8 x9 xz n3 n4 nz
  obtain ⟨_, x1, x2, x3, x4, x5, x6, x7, x8, x9, xz⟩ := side_cell H3.out.sd
  obtain ⟨_, _, _, n3, n4, _, _, _, nz⟩ := node_cell H3.out.nd
  (try dsimp only at x1 x2 x3 x4 x5 x6 x7 x8 x9 n3 n4)
  clear hb3
  go_wp2_with fail
  refine (HRC.out _).mono ?_
  rintro e w4 ⟨rfl, hb4⟩
  have H4 := Lib.hid (H3.out.later hb4)
  clear x1 x2 x3 x4 x5 x6 x7 x8 x9 xz n3 n4 nz
  obtain ⟨_, x1, x2, x3, x4, x5, x6, x7, x8, x9, xz⟩ := side_cell H4.out.sd
  obtain ⟨_, _, _, n3, n4, _, _, _, nz⟩ := node_cell H4.out.nd
  (try dsimp only at x1 x2 x3 x4 x5 x6 x7 x8 x9 n3 n4)
  clear hb4
  go_wp2_with fail
  all_goals (
    go_ret
    refine ⟨⟨_, rfl, ?_⟩, H4.out.b⟩
    simp_all
    try omega)
theorem sideMay_c (w : World) (n : NodeV) (x : SideV) (hT : Tabs w) (hx : x.In w) (hm : x.Small) (ht : n.t.size ≤ 1048576) :
    Calls Tryd.prog 37 #[n.val, x.val] w fun r w' => (∃ b : Bool, r = .returned (.bool b) ∧ (b = true ↔ sideMay n.rd (runesI n.t) x)) ∧ Below w.heap.size w w' := by
  have HE := fun W hT hs => EdgeMay_c W x.s x.h x.A x.c x.L hT hs hm.ops
  have HL := fun W hT hs => LinkMay_c W x.k hT hs hm.link
  unfold sideMay
  by_cases h1 : edgeMay x.s x.h x.L
  · rw [show edgeB x.s x.h x.L = true from decide_eq_true h1] at HE
    by_cases h2 : linkMay x.k
    · rw [decide_eq_true h2] at HL
      by_cases hj : x.j = false
      · rw [if_pos hj]
        refine (sideMay_C w n x hT hx hj HE HL).mono fun _ _ ⟨⟨b, e, k⟩, hb⟩ => ⟨⟨b, e, k.trans ⟨fun q => ⟨⟨h1, h2⟩, q⟩, fun q => q.2⟩⟩, hb⟩
      · rw [if_neg hj]
        have hj' : x.j = true := by simpa using hj
        cases hl : x.L.getLast? with
        | none =>
          have hL : x.L = [] := by simpa using hl
          refine (sideMay_D w n x hT hx hj' (by rw [hL]; rfl) HE HL).mono fun _ _ ⟨⟨b, e, k⟩, hb⟩ => ⟨⟨b, e, k.trans ⟨fun q => ⟨⟨h1, h2⟩, by rw [hL]; exact lastFits_nil, q⟩, fun q => q.2.2⟩⟩, hb⟩
        | some q =>
          have hq : q ∈ x.L := List.mem_of_getLast? hl
          have HLN := fun W hs => LengthsOf_c W q.A q.c q.ps hs (hm.ops q hq).len (hm.ops q hq).text
          have hf := lastFits_some (r := runesI n.t) hl
          by_cases hr : (lens q.ps).2 = runesI n.t
          · refine (sideMay_F w n x hT hx hj' q hl (last_pos hl) hm.len (by unfold runesI at hr; simpa using hr) HE HL HLN (fun W => runes_c n.t W ht)).mono fun _ _ ⟨⟨b, e, k⟩, hb⟩ => ⟨⟨b, e, k.trans ⟨fun q => ⟨⟨h1, h2⟩, hf.2 hr, q⟩, fun q => q.2.2⟩⟩, hb⟩
          · refine (sideMay_E w n x hT hx hj' q hl (last_pos hl) hm.len (by unfold runesI at hr; simpa using hr) HE HL HLN (fun W => runes_c n.t W ht)).mono fun _ _ ⟨⟨b, e, k⟩, hb⟩ => ⟨⟨b, e, k.trans ⟨fun q => q.elim, fun q => hr (hf.1 q.2.1)⟩⟩, hb⟩
    · rw [decide_eq_false h2] at HL
      exact (sideMay_B w n x hT hx HE HL).mono fun _ _ ⟨⟨b, e, k⟩, hb⟩ => ⟨⟨b, e, k.trans ⟨fun q => q.elim, fun q => h2 q.1.2⟩⟩, hb⟩
  · rw [show edgeB x.s x.h x.L = false from decide_eq_false h1] at HE
    exact (sideMay_A w n x hT hx HE).mono fun _ _ ⟨⟨b, e, k⟩, hb⟩ => ⟨⟨b, e, k.trans ⟨fun q => q.elim, fun q => h1 q.1.1⟩⟩, hb⟩
end Go.Proofs.YtbmdepbmejnlkaaDoor
