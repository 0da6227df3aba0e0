/-
  Contracts of the reference's runes and sideMay.
  Contract of the reference's markMay.
  Contract of the reference's NodeFault: what it refuses first.
  Contract of the reference's NodeFault: lengths and readiness.
-/
import Derived.Test.YtbmdepbmejnlkaaDoorRows
import Derived.Test.YtbmdepbmejnlkaaDoorBH
import Derived.Test.YtbmdepbmejnlkaaDoorBJ
import Derived.Test.YtbmdepbmejnlkaaDoorBA
import Derived.BigQuiet
import Derived.Lib.QuietBelow
import Derived.Test.YtbmdepbmejnlkaaDoorBI
namespace Go.Proofs.YtbmdepbmejnlkaaDoor
open Go.ChangeShapes Go.WideShapes Go.ChangeAt Go.RowKit
set_option maxRecDepth 100000
theorem runes_c (s : ByteArray) (w : World) (hs : s.size ≤ 1048576) :
    Calls Tryd.prog 34 #[.string s] w fun e w' => e = .returned (.int .i64 (Lib.runeCount s)) ∧ Below w.heap.size w w' := by
  have hcv := fun wx => convRunes (w := wx) hs
  go_enter Tryd.func34, Tryd.ntmps34
  go_wp2_with fail
  go_ret
  exact ⟨rfl, (by repeat (first | exact Below.refl _ _ | apply bGrow | apply bAlloc | apply Below.drew | apply bDrewN | apply bIter))⟩
set_option maxHeartbeats 1000000 in
theorem sideMay_A (w : World) (n : NodeV) (x : SideV) (HT : Hid (Tabs w)) (HX : Hid (x.In w)) (HE : Hid (∀ W, Tabs W → OpsIn W x.A x.L → Calls Tryd.prog 50 #[edgeV x.s x.h x.A x.L.length x.c] W fun r w' => r = .returned (.bool false) ∧ Below W.heap.size W w')) :
    Calls Tryd.prog 37 #[n.val, x.val] w fun r w' => (∃ b : Bool, r = .returned (.bool b) ∧ (b = true ↔ False)) ∧ Below w.heap.size w w' := by
  have HA := Lib.hid (TwoAt.new w n x)
  obtain ⟨WA, hWA⟩ : ∃ WA, WA = (w.alloc (.cells #[.int .i64 n.me, .int .i64 n.ep, .int .i64 n.up, .bool n.rd, .string n.t, .slice n.sA n.S.length n.sc, .slice n.uA n.U.length n.uc, .slice n.mA n.M.length n.mc] 28)).alloc (.cells #[.int .i64 x.p, .bool x.j, .int .i64 x.s, .int .i64 x.h, .slice x.A x.L.length x.c, .int .i64 x.k.e, .int .i64 x.k.n, .slice x.k.sA x.k.s.length x.k.sc, .slice x.k.qA x.k.q.length x.k.qc, .int .i64 x.k.h] 65) := ⟨_, rfl⟩
  rw [← hWA] at HA
  have HW := Lib.hid hWA.symm
  clear hWA
  obtain ⟨me, ep, up, rd, t, sA, sc, S, uA, uc, U, mA, mc, M⟩ := n
  obtain ⟨p, j, s, h, A, c, L, k⟩ := x
  dsimp only at *
  go_enter Tryd.func37, Tryd.ntmps37
  go_wp2_with fail
  rw [HW.out]
  refine (HE.out _ (HT.out.later HA.out.b) (HX.out.ops.later HA.out.b)).mono ?_
  rintro e w1 ⟨rfl, hb1⟩
  have H1 := Lib.hid (HA.out.later hb1)
  obtain ⟨_, x1, x2, x3, x4, x5, x6, x7, x8, x9, xz⟩ := side_cell H1.out.sd
  (try dsimp only at x1 x2 x3 x4 x5 x6 x7 x8 x9)
  clear hb1
  go_wp2_with fail
  go_ret
  exact ⟨⟨_, rfl, by simp⟩, H1.out.b⟩
set_option maxHeartbeats 1000000 in
theorem sideMay_B (w : World) (n : NodeV) (x : SideV) (HT : Hid (Tabs w)) (HX : Hid (x.In w)) (HE : Hid (∀ W, Tabs W → OpsIn W x.A x.L → Calls Tryd.prog 50 #[edgeV x.s x.h x.A x.L.length x.c] W fun r w' => r = .returned (.bool true) ∧ Below W.heap.size W w')) (HL : Hid (∀ W, Tabs W → x.k.In W → Calls Tryd.prog 66 #[x.k.val] W fun r w' => r = .returned (.bool false) ∧ Below W.heap.size W w')) :
    Calls Tryd.prog 37 #[n.val, x.val] w fun r w' => (∃ b : Bool, r = .returned (.bool b) ∧ (b = true ↔ False)) ∧ Below w.heap.size w w' := by
  have HA := Lib.hid (TwoAt.new w n x)
  obtain ⟨WA, hWA⟩ : ∃ WA, WA = (w.alloc (.cells #[.int .i64 n.me, .int .i64 n.ep, .int .i64 n.up, .bool n.rd, .string n.t, .slice n.sA n.S.length n.sc, .slice n.uA n.U.length n.uc, .slice n.mA n.M.length n.mc] 28)).alloc (.cells #[.int .i64 x.p, .bool x.j, .int .i64 x.s, .int .i64 x.h, .slice x.A x.L.length x.c, .int .i64 x.k.e, .int .i64 x.k.n, .slice x.k.sA x.k.s.length x.k.sc, .slice x.k.qA x.k.q.length x.k.qc, .int .i64 x.k.h] 65) := ⟨_, rfl⟩
  rw [← hWA] at HA
  have HW := Lib.hid hWA.symm
  clear hWA
  obtain ⟨me, ep, up, rd, t, sA, sc, S, uA, uc, U, mA, mc, M⟩ := n
  obtain ⟨p, j, s, h, A, c, L, k⟩ := x
  dsimp only at *
  go_enter Tryd.func37, Tryd.ntmps37
  go_wp2_with fail
  rw [HW.out]
  refine (HE.out _ (HT.out.later HA.out.b) (HX.out.ops.later HA.out.b)).mono ?_
  rintro e w1 ⟨rfl, hb1⟩
  have H1 := Lib.hid (HA.out.later hb1)
  obtain ⟨_, x1, x2, x3, x4, x5, x6, x7, x8, x9, xz⟩ := side_cell H1.out.sd
  (try dsimp only at x1 x2 x3 x4 x5 x6 x7 x8 x9)
  clear hb1
  go_wp2_with fail
  refine (HL.out _ (HT.out.later H1.out.b) (HX.out.link.later H1.out.b)).mono ?_
  rintro e w2 ⟨rfl, hb2⟩
  have H2 := Lib.hid (H1.out.later hb2)
  clear x1 x2 x3 x4 x5 x6 x7 x8 x9 xz
  obtain ⟨_, x1, x2, x3, x4, x5, x6, x7, x8, x9, xz⟩ := side_cell H2.out.sd
  obtain ⟨_, _, _, n3, n4, _, _, _, nz⟩ := node_cell H2.out.nd
  (try dsimp only at x1 x2 x3 x4 x5 x6 x7 x8 x9 n3 n4)
  clear hb2
  go_wp2_with fail
  go_ret
  exact ⟨⟨_, rfl, by simp⟩, H2.out.b⟩
set_option maxHeartbeats 1000000 in
theorem sideMay_C (w : World) (n : NodeV) (x : SideV) (HT : Hid (Tabs w)) (HX : Hid (x.In w)) (hj : x.j = false) (HE : Hid (∀ W, Tabs W → OpsIn W x.A x.L → Calls Tryd.prog 50 #[edgeV x.s x.h x.A x.L.length x.c] W fun r w' => r = .returned (.bool true) ∧ Below W.heap.size W w')) (HL : Hid (∀ W, Tabs W → x.k.In W → Calls Tryd.prog 66 #[x.k.val] W fun r w' => r = .returned (.bool true) ∧ Below W.heap.size W w')) :
    Calls Tryd.prog 37 #[n.val, x.val] w fun r w' => (∃ b : Bool, r = .returned (.bool b) ∧ (b = true ↔ x.s = 0 ∧ x.h = 0)) ∧ Below w.heap.size w w' := by
  have HA := Lib.hid (TwoAt.new w n x)
  obtain ⟨WA, hWA⟩ : ∃ WA, WA = (w.alloc (.cells #[.int .i64 n.me, .int .i64 n.ep, .int .i64 n.up, .bool n.rd, .string n.t, .slice n.sA n.S.length n.sc, .slice n.uA n.U.length n.uc, .slice n.mA n.M.length n.mc] 28)).alloc (.cells #[.int .i64 x.p, .bool x.j, .int .i64 x.s, .int .i64 x.h, .slice x.A x.L.length x.c, .int .i64 x.k.e, .int .i64 x.k.n, .slice x.k.sA x.k.s.length x.k.sc, .slice x.k.qA x.k.q.length x.k.qc, .int .i64 x.k.h] 65) := ⟨_, rfl⟩
  rw [← hWA] at HA
  have HW := Lib.hid hWA.symm
  clear hWA
  obtain ⟨me, ep, up, rd, t, sA, sc, S, uA, uc, U, mA, mc, M⟩ := n
  obtain ⟨p, j, s, h, A, c, L, k⟩ := x
  dsimp only at *
  subst hj
  go_enter Tryd.func37, Tryd.ntmps37
  go_wp2_with fail
  rw [HW.out]
  refine (HE.out _ (HT.out.later HA.out.b) (HX.out.ops.later HA.out.b)).mono ?_
  rintro e w1 ⟨rfl, hb1⟩
  have H1 := Lib.hid (HA.out.later hb1)
  obtain ⟨_, x1, x2, x3, x4, x5, x6, x7, x8, x9, xz⟩ := side_cell H1.out.sd
  (try dsimp only at x1 x2 x3 x4 x5 x6 x7 x8 x9)
  clear hb1
  go_wp2_with fail
  refine (HL.out _ (HT.out.later H1.out.b) (HX.out.link.later H1.out.b)).mono ?_
  rintro e w2 ⟨rfl, hb2⟩
  have H2 := Lib.hid (H1.out.later hb2)
  clear x1 x2 x3 x4 x5 x6 x7 x8 x9 xz
  obtain ⟨_, x1, x2, x3, x4, x5, x6, x7, x8, x9, xz⟩ := side_cell H2.out.sd
  obtain ⟨_, _, _, n3, n4, _, _, _, nz⟩ := node_cell H2.out.nd
  (try dsimp only at x1 x2 x3 x4 x5 x6 x7 x8 x9 n3 n4)
  clear hb2
  go_wp2_with fail
  all_goals (
    go_ret
    refine ⟨⟨_, rfl, ?_⟩, H2.out.b⟩
    simp_all)
set_option maxHeartbeats 1000000 in
theorem sideMay_D (w : World) (n : NodeV) (x : SideV) (HT : Hid (Tabs w)) (HX : Hid (x.In w)) (hj : x.j = true) (_hL : decide (0 < x.L.length) = false) (HE : Hid (∀ W, Tabs W → OpsIn W x.A x.L → Calls Tryd.prog 50 #[edgeV x.s x.h x.A x.L.length x.c] W fun r w' => r = .returned (.bool true) ∧ Below W.heap.size W w')) (HL : Hid (∀ W, Tabs W → x.k.In W → Calls Tryd.prog 66 #[x.k.val] W fun r w' => r = .returned (.bool true) ∧ Below W.heap.size W w')) :
    Calls Tryd.prog 37 #[n.val, x.val] w fun r w' => (∃ b : Bool, r = .returned (.bool b) ∧ (b = true ↔ n.rd = true ∧ x.k.e ≠ 0)) ∧ Below w.heap.size w w' := by
  have HA := Lib.hid (TwoAt.new w n x)
  obtain ⟨WA, hWA⟩ : ∃ WA, WA = (w.alloc (.cells #[.int .i64 n.me, .int .i64 n.ep, .int .i64 n.up, .bool n.rd, .string n.t, .slice n.sA n.S.length n.sc, .slice n.uA n.U.length n.uc, .slice n.mA n.M.length n.mc] 28)).alloc (.cells #[.int .i64 x.p, .bool x.j, .int .i64 x.s, .int .i64 x.h, .slice x.A x.L.length x.c, .int .i64 x.k.e, .int .i64 x.k.n, .slice x.k.sA x.k.s.length x.k.sc, .slice x.k.qA x.k.q.length x.k.qc, .int .i64 x.k.h] 65) := ⟨_, rfl⟩
  rw [← hWA] at HA
  have HW := Lib.hid hWA.symm
  clear hWA
  obtain ⟨me, ep, up, rd, t, sA, sc, S, uA, uc, U, mA, mc, M⟩ := n
  obtain ⟨p, j, s, h, A, c, L, k⟩ := x
  dsimp only at *
  subst hj
  cases rd
  all_goals (
    go_enter Tryd.func37, Tryd.ntmps37
    go_wp2_with fail
    rw [HW.out]
    refine (HE.out _ (HT.out.later HA.out.b) (HX.out.ops.later HA.out.b)).mono ?_
    rintro e w1 ⟨rfl, hb1⟩
    have H1 := Lib.hid (HA.out.later hb1)
    obtain ⟨_, x1, x2, x3, x4, x5, x6, x7, x8, x9, xz⟩ := side_cell H1.out.sd
    (try dsimp only at x1 x2 x3 x4 x5 x6 x7 x8 x9)
    clear hb1
    go_wp2_with fail
    refine (HL.out _ (HT.out.later H1.out.b) (HX.out.link.later H1.out.b)).mono ?_
    rintro e w2 ⟨rfl, hb2⟩
    have H2 := Lib.hid (H1.out.later hb2)
    clear x1 x2 x3 x4 x5 x6 x7 x8 x9 xz
    obtain ⟨_, x1, x2, x3, x4, x5, x6, x7, x8, x9, xz⟩ := side_cell H2.out.sd
    obtain ⟨_, _, _, n3, n4, _, _, _, nz⟩ := node_cell H2.out.nd
    (try dsimp only at x1 x2 x3 x4 x5 x6 x7 x8 x9 n3 n4)
    clear hb2
    go_wp2_with fail
    all_goals (
      go_ret
      refine ⟨⟨_, rfl, ?_⟩, H2.out.b⟩
      simp_all
      try omega))
set_option maxHeartbeats 1000000 in
theorem sideMay_E (w : World) (n : NodeV) (x : SideV) (HT : Hid (Tabs w)) (HX : Hid (x.In w)) (hj : x.j = true) (q : OpV) (HQ : Hid (x.L.getLast? = some q)) (hp : 0 < x.L.length) (hml : x.L.length ≤ 1048576) (ht : ((lens q.ps).2 != (Lib.runeCount n.t : Int)) = true) (HE : Hid (∀ W, Tabs W → OpsIn W x.A x.L → Calls Tryd.prog 50 #[edgeV x.s x.h x.A x.L.length x.c] W fun r w' => r = .returned (.bool true) ∧ Below W.heap.size W w')) (HL : Hid (∀ W, Tabs W → x.k.In W → Calls Tryd.prog 66 #[x.k.val] W fun r w' => r = .returned (.bool true) ∧ Below W.heap.size W w')) (HLN : Hid (∀ W, OpIn (· < W.heap.size) W q.A q.ps → Calls Tryd.prog 35 #[.slice q.A q.ps.length q.c] W fun e w' => e = .returned (.tuple #[.int .i64 (lens q.ps).1, .int .i64 (lens q.ps).2]) ∧ Below W.heap.size W w')) (HRC : Hid (∀ W, Calls Tryd.prog 34 #[.string n.t] W fun e w' => e = .returned (.int .i64 (Lib.runeCount n.t)) ∧ Below W.heap.size W w')) :
    Calls Tryd.prog 37 #[n.val, x.val] w fun r w' => (∃ b : Bool, r = .returned (.bool b) ∧ (b = true ↔ False)) ∧ Below w.heap.size w w' := by
  have hw : wrap64 ((x.L.length : Int) - 1) = ((x.L.length - 1 : Nat) : Int) := wrap_last hp hml
  have HLS := Lib.hid (fun (W : World) (hs : OpsIn W x.A x.L) => last_at hs HQ.out)
  generalize hr : (Lib.runeCount n.t : Int) = rc at *
  generalize lens q.ps = ln at *
  obtain ⟨l1, l2⟩ := ln
  clear hr
  have HA := Lib.hid (TwoAt.new w n x)
  obtain ⟨WA, hWA⟩ : ∃ WA, WA = (w.alloc (.cells #[.int .i64 n.me, .int .i64 n.ep, .int .i64 n.up, .bool n.rd, .string n.t, .slice n.sA n.S.length n.sc, .slice n.uA n.U.length n.uc, .slice n.mA n.M.length n.mc] 28)).alloc (.cells #[.int .i64 x.p, .bool x.j, .int .i64 x.s, .int .i64 x.h, .slice x.A x.L.length x.c, .int .i64 x.k.e, .int .i64 x.k.n, .slice x.k.sA x.k.s.length x.k.sc, .slice x.k.qA x.k.q.length x.k.qc, .int .i64 x.k.h] 65) := ⟨_, rfl⟩
  rw [← hWA] at HA
  have HW := Lib.hid hWA.symm
  clear hWA
  obtain ⟨me, ep, up, rd, t, sA, sc, S, uA, uc, U, mA, mc, M⟩ := n
  obtain ⟨p, j, s, h, A, c, L, k⟩ := x
  dsimp only at *
  subst hj
  go_enter Tryd.func37, Tryd.ntmps37
  go_wp2_with fail
  rw [HW.out]
  refine (HE.out _ (HT.out.later HA.out.b) (HX.out.ops.later HA.out.b)).mono ?_
  rintro e w1 ⟨rfl, hb1⟩
  have H1 := Lib.hid (HA.out.later hb1)
  obtain ⟨_, x1, x2, x3, x4, x5, x6, x7, x8, x9, xz⟩ := side_cell H1.out.sd
  (try dsimp only at x1 x2 x3 x4 x5 x6 x7 x8 x9)
  clear hb1
  go_wp2_with fail
  refine (HL.out _ (HT.out.later H1.out.b) (HX.out.link.later H1.out.b)).mono ?_
  rintro e w2 ⟨rfl, hb2⟩
  have H2 := Lib.hid (H1.out.later hb2)
  clear x1 x2 x3 x4 x5 x6 x7 x8 x9 xz
  obtain ⟨_, x1, x2, x3, x4, x5, x6, x7, x8, x9, xz⟩ := side_cell H2.out.sd
  obtain ⟨_, _, _, n3, n4, _, _, _, nz⟩ := node_cell H2.out.nd
  (try dsimp only at x1 x2 x3 x4 x5 x6 x7 x8 x9 n3 n4)
  clear hb2
  have HO := Lib.hid (HX.out.ops.later H2.out.b)
  obtain ⟨b, o, hAe, hbs, c0, hop⟩ := HLS.out _ HO.out
  subst hAe
  have HOP := Lib.hid hop
  clear hop
  go_wp2_with fail
  refine (HLN.out _ HOP.out).mono ?_
  rintro e w3 ⟨rfl, hb3⟩
  have H3 := Lib.hid (H2.out.later hb3)
  clear x1 x2 x3 x4 x5 x6 x7 x8 x9 xz n3 n4 nz
  obtain ⟨_, x1, x2, x3, x4, x5, x6, x7, x8, x9, xz⟩ := side_cell H3.out.sd
  obtain ⟨_, _, _, n3, n4, _, _, _, nz⟩ := node_cell H3.out.nd
  (try dsimp only at x1 x2 x3 x4 x5 x6 x7 x8 x9 n3 n4)
  clear hb3
  go_wp2_with fail
  refine (HRC.out _).mono ?_
  rintro e w4 ⟨rfl, hb4⟩
  have H4 := Lib.hid (H3.out.later hb4)
  clear x1 x2 x3 x4 x5 x6 x7 x8 x9 xz n3 n4 nz
  obtain ⟨_, x1, x2, x3, x4, x5, x6, x7, x8, x9, xz⟩ := side_cell H4.out.sd
  obtain ⟨_, _, _, n3, n4, _, _, _, nz⟩ := node_cell H4.out.nd
  (try dsimp only at x1 x2 x3 x4 x5 x6 x7 x8 x9 n3 n4)
  clear hb4
  go_wp2_with fail
  go_ret
  exact ⟨⟨_, rfl, by simp⟩, H4.out.b⟩
set_option maxHeartbeats 1000000 in
theorem sideMay_F (w : World) (n : NodeV) (x : SideV) (HT : Hid (Tabs w)) (HX : Hid (x.In w)) (hj : x.j = true) (q : OpV) (HQ : Hid (x.L.getLast? = some q)) (hp : 0 < x.L.length) (hml : x.L.length ≤ 1048576) (ht : ((lens q.ps).2 != (Lib.runeCount n.t : Int)) = false) (HE : Hid (∀ W, Tabs W → OpsIn W x.A x.L → Calls Tryd.prog 50 #[edgeV x.s x.h x.A x.L.length x.c] W fun r w' => r = .returned (.bool true) ∧ Below W.heap.size W w')) (HL : Hid (∀ W, Tabs W → x.k.In W → Calls Tryd.prog 66 #[x.k.val] W fun r w' => r = .returned (.bool true) ∧ Below W.heap.size W w')) (HLN : Hid (∀ W, OpIn (· < W.heap.size) W q.A q.ps → Calls Tryd.prog 35 #[.slice q.A q.ps.length q.c] W fun e w' => e = .returned (.tuple #[.int .i64 (lens q.ps).1, .int .i64 (lens q.ps).2]) ∧ Below W.heap.size W w')) (HRC : Hid (∀ W, Calls Tryd.prog 34 #[.string n.t] W fun e w' => e = .returned (.int .i64 (Lib.runeCount n.t)) ∧ Below W.heap.size W w')) :
    Calls Tryd.prog 37 #[n.val, x.val] w fun r w' => (∃ b : Bool, r = .returned (.bool b) ∧ (b = true ↔ n.rd = true ∧ x.k.e ≠ 0)) ∧ Below w.heap.size w w' := by
  have hw : wrap64 ((x.L.length : Int) - 1) = ((x.L.length - 1 : Nat) : Int) := wrap_last hp hml
  have HLS := Lib.hid (fun (W : World) (hs : OpsIn W x.A x.L) => last_at hs HQ.out)
  generalize hr : (Lib.runeCount n.t : Int) = rc at *
  generalize lens q.ps = ln at *
  obtain ⟨l1, l2⟩ := ln
  clear hr
  have HA := Lib.hid (TwoAt.new w n x)
  obtain ⟨WA, hWA⟩ : ∃ WA, WA = (w.alloc (.cells #[.int .i64 n.me, .int .i64 n.ep, .int .i64 n.up, .bool n.rd, .string n.t, .slice n.sA n.S.length n.sc, .slice n.uA n.U.length n.uc, .slice n.mA n.M.length n.mc] 28)).alloc (.cells #[.int .i64 x.p, .bool x.j, .int .i64 x.s, .int .i64 x.h, .slice x.A x.L.length x.c, .int .i64 x.k.e, .int .i64 x.k.n, .slice x.k.sA x.k.s.length x.k.sc, .slice x.k.qA x.k.q.length x.k.qc, .int .i64 x.k.h] 65) := ⟨_, rfl⟩
  rw [← hWA] at HA
  have HW := Lib.hid hWA.symm
  clear hWA
  obtain ⟨me, ep, up, rd, t, sA, sc, S, uA, uc, U, mA, mc, M⟩ := n
  obtain ⟨p, j, s, h, A, c, L, k⟩ := x
  dsimp only at *
  subst hj
  go_enter Tryd.func37, Tryd.ntmps37
  go_wp2_with fail
  rw [HW.out]
  refine (HE.out _ (HT.out.later HA.out.b) (HX.out.ops.later HA.out.b)).mono ?_
  rintro e w1 ⟨rfl, hb1⟩
  have H1 := Lib.hid (HA.out.later hb1)
  obtain ⟨_, x1, x2, x3, x4, x5, x6, x7, x8, x9, xz⟩ := side_cell H1.out.sd
  (try dsimp only at x1 x2 x3 x4 x5 x6 x7 x8 x9)
  clear hb1
  go_wp2_with fail
  refine (HL.out _ (HT.out.later H1.out.b) (HX.out.link.later H1.out.b)).mono ?_
  rintro e w2 ⟨rfl, hb2⟩
  have H2 := Lib.hid (H1.out.later hb2)
  clear x1 x2 x3 x4 x5 x6 x7 x8 x9 xz
  obtain ⟨_, x1, x2, x3, x4, x5, x6, x7, x8, x9, xz⟩ := side_cell H2.out.sd
  obtain ⟨_, _, _, n3, n4, _, _, _, nz⟩ := node_cell H2.out.nd
  (try dsimp only at x1 x2 x3 x4 x5 x6 x7 x8 x9 n3 n4)
  clear hb2
  have HO := Lib.hid (HX.out.ops.later H2.out.b)
  obtain ⟨b, o, hAe, hbs, c0, hop⟩ := HLS.out _ HO.out
  subst hAe
  have HOP := Lib.hid hop
  clear hop
  go_wp2_with fail
  refine (HLN.out _ HOP.out).mono ?_
  rintro e w3 ⟨rfl, hb3⟩
  have H3 := Lib.hid (H2.out.later hb3)
  clear x1 x2 x3 x4 x5 x6 x7 x8 x9 xz n3 n4 nz
  obtain ⟨_, x1, x2, x3, x4, x5, x6, x7, x8, x9, xz⟩ := side_cell H3.out.sd
  obtain ⟨_, _, _, n3, n4, _, _, _, nz⟩ := node_cell H3.out.nd
  (try dsimp only at x1 x2 x3 x4 x5 x6 x7 x8 x9 n3 n4)
  clear hb3
  go_wp2_with fail
  refine (HRC.out _).mono ?_
  rintro e w4 ⟨rfl, hb4⟩
  have H4 := Lib.hid (H3.out.later hb4)
  clear x1 x2 x3 x4 x5 x6 x7 x8 x9 xz n3 n4 nz
  obtain ⟨_, x1, x2, x3, x4, x5, x6, x7, x8, x9, xz⟩ := side_cell H4.out.sd
  obtain ⟨_, _, _, n3, n4, _, _, _, nz⟩ := node_cell H4.out.nd
  (try dsimp only at x1 x2 x3 x4 x5 x6 x7 x8 x9 n3 n4)
  clear hb4
  go_wp2_with fail
  all_goals (
    go_ret
    refine ⟨⟨_, rfl, ?_⟩, H4.out.b⟩
    simp_all
    try omega)
theorem sideMay_c (w : World) (n : NodeV) (x : SideV) (hT : Tabs w) (hx : x.In w) (hm : x.Small) (ht : n.t.size ≤ 1048576) :
    Calls Tryd.prog 37 #[n.val, x.val] w fun r w' => (∃ b : Bool, r = .returned (.bool b) ∧ (b = true ↔ sideMay n.rd (runesI n.t) x)) ∧ Below w.heap.size w w' := by
  have HE := fun W hT hs => EdgeMay_c W x.s x.h x.A x.c x.L hT hs hm.ops
  have HL := fun W hT hs => LinkMay_c W x.k hT hs hm.link
  unfold sideMay
  by_cases h1 : edgeMay x.s x.h x.L
  · rw [show edgeB x.s x.h x.L = true from decide_eq_true h1] at HE
    by_cases h2 : linkMay x.k
    · rw [decide_eq_true h2] at HL
      by_cases hj : x.j = false
      · rw [if_pos hj]
        refine (sideMay_C w n x hT hx hj HE HL).mono fun _ _ ⟨⟨b, e, k⟩, hb⟩ => ⟨⟨b, e, k.trans ⟨fun q => ⟨⟨h1, h2⟩, q⟩, fun q => q.2⟩⟩, hb⟩
      · rw [if_neg hj]
        have hj' : x.j = true := by simpa using hj
        cases hl : x.L.getLast? with
        | none =>
          have hL : x.L = [] := by simpa using hl
          refine (sideMay_D w n x hT hx hj' (by rw [hL]; rfl) HE HL).mono fun _ _ ⟨⟨b, e, k⟩, hb⟩ => ⟨⟨b, e, k.trans ⟨fun q => ⟨⟨h1, h2⟩, by rw [hL]; exact lastFits_nil, q⟩, fun q => q.2.2⟩⟩, hb⟩
        | some q =>
          have hq : q ∈ x.L := List.mem_of_getLast? hl
          have HLN := fun W hs => LengthsOf_c W q.A q.c q.ps hs (hm.ops q hq).len (hm.ops q hq).text
          have hf := lastFits_some (r := runesI n.t) hl
          by_cases hr : (lens q.ps).2 = runesI n.t
          · refine (sideMay_F w n x hT hx hj' q hl (last_pos hl) hm.len (by unfold runesI at hr; simpa using hr) HE HL HLN (fun W => runes_c n.t W ht)).mono fun _ _ ⟨⟨b, e, k⟩, hb⟩ => ⟨⟨b, e, k.trans ⟨fun q => ⟨⟨h1, h2⟩, hf.2 hr, q⟩, fun q => q.2.2⟩⟩, hb⟩
          · refine (sideMay_E w n x hT hx hj' q hl (last_pos hl) hm.len (by unfold runesI at hr; simpa using hr) HE HL HLN (fun W => runes_c n.t W ht)).mono fun _ _ ⟨⟨b, e, k⟩, hb⟩ => ⟨⟨b, e, k.trans ⟨fun q => q.elim, fun q => hr (hf.1 q.2.1)⟩⟩, hb⟩
    · rw [decide_eq_false h2] at HL
      exact (sideMay_B w n x hT hx HE HL).mono fun _ _ ⟨⟨b, e, k⟩, hb⟩ => ⟨⟨b, e, k.trans ⟨fun q => q.elim, fun q => h2 q.1.2⟩⟩, hb⟩
  · rw [show edgeB x.s x.h x.L = false from decide_eq_false h1] at HE
    exact (sideMay_A w n x hT hx HE).mono fun _ _ ⟨⟨b, e, k⟩, hb⟩ => ⟨⟨b, e, k.trans ⟨fun q => q.elim, fun q => h1 q.1.1⟩⟩, hb⟩
end Go.Proofs.YtbmdepbmejnlkaaDoor
namespace Go.Proofs.YtbmdepbmejnlkaaDoor
open Go.ChangeShapes Go.WideShapes Go.ChangeAt Go.RowKit
set_option maxRecDepth 100000
theorem regrown_same {P : Program} {f : FuncId} {args : Array Value} {w : World} {d : Nat} {os : Array Obj} {v : Value} (h : Calls P f args (Go.Sort.grow (redrawn w d) os) fun e w' => e = .returned v ∧ Go.Sort.grow (redrawn w d) os = w') : Calls P f args (Go.Sort.grow (redrawn w d) os) fun e w'' => e = .returned v ∧ ∃ p : Regrown, w'' = Go.Sort.grow (redrawn w p.d) p.os :=
  h.mono fun _ _ ⟨he, hw⟩ => ⟨he, ⟨d, os⟩, hw.symm⟩
abbrev markV (m : Int × Int) : Value := .agg #[.int .i64 m.1, .int .i64 m.2]
set_option maxHeartbeats 1000000 in
theorem markMay_a (w : World) (s : ByteArray) (a h : Int) (hs : s.size ≤ 1048576) (H : Hid (a < 0 ∨ runesI s < a)) : Calls Tryd.prog 38 #[.string s, markV (a, h)] w fun r w' => r = .returned (.bool false) ∧ Below w.heap.size w w' := by
  have HR := Lib.hid (fun W => runes_c s W hs)
  unfold runesI at H
  generalize (Lib.runeCount s : Int) = rc at *
  have HR2 : ∀ (W : World) d os, Calls Tryd.prog 34 #[.string s] (Go.Sort.grow (redrawn W d) os) fun e w'' => e = .returned (.int .i64 rc) ∧ ∃ p : Regrown, w'' = Go.Sort.grow (redrawn W p.d) p.os := fun W d os => Calls.regrown_of (HR.out _)
  have HI2 : ∀ (W : World) d os, Calls Tryd.prog 31 #[.int .i64 a, .int .i64 0, .int .i64 rc] (Go.Sort.grow (redrawn W d) os) fun e w'' => e = .returned (.bool false) ∧ ∃ p : Regrown, w'' = Go.Sort.grow (redrawn W p.d) p.os := fun W d os => regrown_same (In_no a 0 rc _ H.out)
  have HR3 := Lib.hid HR2
  have HI3 := Lib.hid HI2
  clear HR2 HI2
  obtain ⟨W1, hW1⟩ : ∃ W1, W1 = w.alloc (.cells #[.int .i64 a, .int .i64 h] 52) := ⟨_, rfl⟩
  have k0 := cell_regrown (show W1.cell? ⟨w.heap.size, 0, none⟩ = some (.int .i64 a) by rw [hW1]; simp)
  have HW := Lib.hid hW1.symm
  have HB := Lib.hid (show Below w.heap.size w W1 by rw [hW1]; exact bAlloc (Below.refl _ _) _)
  clear hW1
  go_enter Tryd.func38, Tryd.ntmps38
  go_wp2_with (refine stop_at ?_)
  refine ⟨?_⟩
  rw [HW.out]
  refine wp_region_quiet_below (by kernel_rfl) (by kernel_rfl) ?_
  repeat (quiet_step (first | (go_at_call 34; exact HR3.out _ _ _) | (go_at_call 31; exact HI3.out _ _ _) | exact HR3.out _ _ _ | exact HI3.out _ _ _))
  refine wpQuiet_nil ?_
  intro _ hw'
  obtain ⟨⟨dq, osq⟩, hw''⟩ := hw'
  subst hw''
  go_wp2_with fail
  go_ret
  exact ⟨rfl, bThen HB.out (below_regrown _ dq osq)⟩
set_option maxHeartbeats 1000000 in
theorem markMay_b (w : World) (s : ByteArray) (a h : Int) (hs : s.size ≤ 1048576) (h1 : 0 ≤ a) (H1 : Hid (a ≤ runesI s)) (b : Bool) (HB : Hid ((b = true ∧ 0 ≤ h ∧ h ≤ runesI s) ∨ (b = false ∧ (h < 0 ∨ runesI s < h)))) : Calls Tryd.prog 38 #[.string s, markV (a, h)] w fun r w' => r = .returned (.bool b) ∧ Below w.heap.size w w' := by
  have HR := Lib.hid (fun W => runes_c s W hs)
  unfold runesI at H1 HB
  generalize (Lib.runeCount s : Int) = rc at *
  go_enter Tryd.func38, Tryd.ntmps38
  have HI : Hid (∀ W, Calls Tryd.prog 31 #[.int .i64 h, .int .i64 0, .int .i64 rc] W fun e w' => e = .returned (.bool b) ∧ W = w') := Lib.hid fun W => by
    rcases HB.out with ⟨rfl, q1, q2⟩ | ⟨rfl, q⟩
    · exact In_yes h 0 rc W q1 q2
    · exact In_no h 0 rc W q
  go_wp2_with (refine stop_at ?_)
  refine ⟨?_⟩
  go_region_law (first
    | (go_simp; go_at_call 34; refine (HR.out _).mono ?_; rintro e w1 ⟨rfl, hb1⟩; obtain ⟨⟨d1, os1⟩, rfl⟩ := beyond_of hb1)
    | (go_simp; go_at_call 31; (with_reducible refine (In_yes a 0 rc _ h1 H1.out).mono ?_); rintro e w2 ⟨rfl, rfl⟩)
    | (go_simp; go_at_call 31; refine (HI.out _).mono ?_; rintro e w2 ⟨rfl, rfl⟩))
  all_goals (
    go_wp2_with fail
    go_ret
    exact ⟨by simp, (by repeat (first | exact Below.refl _ _ | apply bGrow | apply bAlloc | apply Below.drew | apply bDrewN | apply bIter))⟩)
theorem markMay_c (w : World) (s : ByteArray) (m : Int × Int) (hs : s.size ≤ 1048576) : Calls Tryd.prog 38 #[.string s, markV m] w fun r w' => (∃ b : Bool, r = .returned (.bool b) ∧ (b = true ↔ markOk (runesI s) m)) ∧ Below w.heap.size w w' := by
  obtain ⟨a, h⟩ := m
  unfold markOk
  by_cases h1 : 0 ≤ a ∧ a ≤ runesI s
  · by_cases h2 : 0 ≤ h ∧ h ≤ runesI s
    · exact (markMay_b w s a h hs h1.1 h1.2 true (.inl ⟨rfl, h2⟩)).mono fun _ _ k => ⟨⟨true, k.1, by simp [h1, h2]⟩, k.2⟩
    · exact (markMay_b w s a h hs h1.1 h1.2 false (.inr ⟨rfl, by omega⟩)).mono fun _ _ k => ⟨⟨false, k.1, by simp; intro _ _ q; omega⟩, k.2⟩
  · exact (markMay_a w s a h hs (by show a < 0 ∨ runesI s < a; omega)).mono fun _ _ k => ⟨⟨false, k.1, by simp; intro q; omega⟩, k.2⟩
end Go.Proofs.YtbmdepbmejnlkaaDoor
namespace Go.Proofs.YtbmdepbmejnlkaaDoor
open Go.ChangeShapes Go.WideShapes Go.ChangeAt Go.RowKit
set_option maxRecDepth 100000
theorem wrap_pred {N : Nat} (h0 : 0 < N) (h : N ≤ 7) : wrap64 ((N : Int) - 1) = (N : Int) - 1 := by
  unfold wrap64
  omega
set_option maxHeartbeats 1000000 in
theorem NodeFault_tree (w : World) (T : Option Addr) (N Nc : Nat) (n : NodeV) (_HT : Hid (Tabs w)) (_HI : Hid (n.In w)) (_hN0 : 0 < N) (_hN : N ≤ 7) (er : Int) (_he : (er != 0) = true) (HC : Hid (∀ W, Below w.heap.size w W → Calls Tryd.prog 30 #[.slice T N Nc] W fun e w' => e = .returned (.int .i64 er) ∧ W = w')) :
    Calls Tryd.prog 9 #[.slice T N Nc, n.val] w fun r w' => r = .returned (.int .i64 er) ∧ Below w.heap.size w w' := by
  have HA := Lib.hid (OneAt.new w n)
  obtain ⟨WA, hWA⟩ : ∃ WA, WA = w.alloc (.cells #[.int .i64 n.me, .int .i64 n.ep, .int .i64 n.up, .bool n.rd, .string n.t, .slice n.sA n.S.length n.sc, .slice n.uA n.U.length n.uc, .slice n.mA n.M.length n.mc] 28) := ⟨_, rfl⟩
  rw [← hWA] at HA
  have HW := Lib.hid hWA.symm
  clear hWA
  go_enter Tryd.func9, Tryd.ntmps9
  go_wp2_with fail
  rw [HW.out]
  refine (HC.out _ HA.out.b).mono ?_
  rintro e w1 ⟨rfl, rfl⟩
  obtain ⟨n0, n1, n2, n3, n4, n5, n6, n7, nz⟩ := node_cell HA.out.nd
  go_wp2_with fail
  go_ret
  exact ⟨rfl, HA.out.b⟩
set_option maxHeartbeats 1000000 in
theorem NodeFault_me (w : World) (T : Option Addr) (N Nc : Nat) (n : NodeV) (_HT : Hid (Tabs w)) (_HI : Hid (n.In w)) (hN0 : 0 < N) (hN : N ≤ 7) (Hme : Hid (n.me < 0 ∨ (N : Int) - 1 < n.me)) (HC : Hid (∀ W, Below w.heap.size w W → Calls Tryd.prog 30 #[.slice T N Nc] W fun e w' => e = .returned (.int .i64 0) ∧ W = w')) :
    Calls Tryd.prog 9 #[.slice T N Nc, n.val] w fun r w' => r = .returned (.int .i64 9) ∧ Below w.heap.size w w' := by
  have HA := Lib.hid (OneAt.new w n)
  obtain ⟨WA, hWA⟩ : ∃ WA, WA = w.alloc (.cells #[.int .i64 n.me, .int .i64 n.ep, .int .i64 n.up, .bool n.rd, .string n.t, .slice n.sA n.S.length n.sc, .slice n.uA n.U.length n.uc, .slice n.mA n.M.length n.mc] 28) := ⟨_, rfl⟩
  rw [← hWA] at HA
  have HW := Lib.hid hWA.symm
  clear hWA
  go_enter Tryd.func9, Tryd.ntmps9
  go_wp2_with fail
  rw [HW.out]
  refine (HC.out _ HA.out.b).mono ?_
  rintro e w1 ⟨rfl, rfl⟩
  obtain ⟨n0, n1, n2, n3, n4, n5, n6, n7, nz⟩ := node_cell HA.out.nd
  have hw1 : wrap64 ((N : Int) - 1) = (N : Int) - 1 := wrap_pred hN0 hN
  go_wp2_with fail
  refine (In_no n.me 0 ((N : Int) - 1) _ Hme.out).mono ?_
  rintro e wi ⟨rfl, rfl⟩
  go_wp2_with fail
  go_ret
  exact ⟨rfl, HA.out.b⟩
set_option maxHeartbeats 1000000 in
theorem NodeFault_ep (w : World) (T : Option Addr) (N Nc : Nat) (n : NodeV) (_HT : Hid (Tabs w)) (_HI : Hid (n.In w)) (hN0 : 0 < N) (hN : N ≤ 7) (Hme : Hid (0 ≤ n.me ∧ n.me ≤ (N : Int) - 1)) (Hep : Hid (n.ep < 1 ∨ 1048575 < n.ep)) (HC : Hid (∀ W, Below w.heap.size w W → Calls Tryd.prog 30 #[.slice T N Nc] W fun e w' => e = .returned (.int .i64 0) ∧ W = w')) :
    Calls Tryd.prog 9 #[.slice T N Nc, n.val] w fun r w' => r = .returned (.int .i64 9) ∧ Below w.heap.size w w' := by
  have HA := Lib.hid (OneAt.new w n)
  obtain ⟨WA, hWA⟩ : ∃ WA, WA = w.alloc (.cells #[.int .i64 n.me, .int .i64 n.ep, .int .i64 n.up, .bool n.rd, .string n.t, .slice n.sA n.S.length n.sc, .slice n.uA n.U.length n.uc, .slice n.mA n.M.length n.mc] 28) := ⟨_, rfl⟩
  rw [← hWA] at HA
  have HW := Lib.hid hWA.symm
  clear hWA
  go_enter Tryd.func9, Tryd.ntmps9
  go_wp2_with fail
  rw [HW.out]
  refine (HC.out _ HA.out.b).mono ?_
  rintro e w1 ⟨rfl, rfl⟩
  obtain ⟨n0, n1, n2, n3, n4, n5, n6, n7, nz⟩ := node_cell HA.out.nd
  have hw1 : wrap64 ((N : Int) - 1) = (N : Int) - 1 := wrap_pred hN0 hN
  go_wp2_with fail
  refine (In_yes n.me 0 ((N : Int) - 1) _ Hme.out.1 Hme.out.2).mono ?_
  rintro e wi ⟨rfl, rfl⟩
  go_wp2_with fail
  refine (In_no n.ep 1 1048575 _ Hep.out).mono ?_
  rintro e wi ⟨rfl, rfl⟩
  go_wp2_with fail
  go_ret
  exact ⟨rfl, HA.out.b⟩
set_option maxHeartbeats 1000000 in
theorem NodeFault_up (w : World) (T : Option Addr) (N Nc : Nat) (n : NodeV) (_HT : Hid (Tabs w)) (_HI : Hid (n.In w)) (hN0 : 0 < N) (hN : N ≤ 7) (Hme : Hid (0 ≤ n.me ∧ n.me ≤ (N : Int) - 1)) (Hep : Hid (1 ≤ n.ep ∧ n.ep ≤ 1048575)) (Hup : Hid (n.up < 0 ∨ 1048576 < n.up)) (HC : Hid (∀ W, Below w.heap.size w W → Calls Tryd.prog 30 #[.slice T N Nc] W fun e w' => e = .returned (.int .i64 0) ∧ W = w')) :
    Calls Tryd.prog 9 #[.slice T N Nc, n.val] w fun r w' => r = .returned (.int .i64 9) ∧ Below w.heap.size w w' := by
  have HA := Lib.hid (OneAt.new w n)
  obtain ⟨WA, hWA⟩ : ∃ WA, WA = w.alloc (.cells #[.int .i64 n.me, .int .i64 n.ep, .int .i64 n.up, .bool n.rd, .string n.t, .slice n.sA n.S.length n.sc, .slice n.uA n.U.length n.uc, .slice n.mA n.M.length n.mc] 28) := ⟨_, rfl⟩
  rw [← hWA] at HA
  have HW := Lib.hid hWA.symm
  clear hWA
  go_enter Tryd.func9, Tryd.ntmps9
  go_wp2_with fail
  rw [HW.out]
  refine (HC.out _ HA.out.b).mono ?_
  rintro e w1 ⟨rfl, rfl⟩
  obtain ⟨n0, n1, n2, n3, n4, n5, n6, n7, nz⟩ := node_cell HA.out.nd
  have hw1 : wrap64 ((N : Int) - 1) = (N : Int) - 1 := wrap_pred hN0 hN
  go_wp2_with fail
  refine (In_yes n.me 0 ((N : Int) - 1) _ Hme.out.1 Hme.out.2).mono ?_
  rintro e wi ⟨rfl, rfl⟩
  go_wp2_with fail
  refine (In_yes n.ep 1 1048575 _ Hep.out.1 Hep.out.2).mono ?_
  rintro e wi ⟨rfl, rfl⟩
  go_wp2_with fail
  refine (In_no n.up 0 1048576 _ Hup.out).mono ?_
  rintro e wi ⟨rfl, rfl⟩
  go_wp2_with fail
  go_ret
  exact ⟨rfl, HA.out.b⟩
set_option maxHeartbeats 1000000 in
theorem NodeFault_zu (w : World) (T : Option Addr) (N Nc : Nat) (n : NodeV) (_HT : Hid (Tabs w)) (_HI : Hid (n.In w)) (hN0 : 0 < N) (hN : N ≤ 7) (Hme : Hid (0 ≤ n.me ∧ n.me ≤ (N : Int) - 1)) (Hep : Hid (1 ≤ n.ep ∧ n.ep ≤ 1048575)) (Hup : Hid (0 ≤ n.up ∧ n.up ≤ 1048576)) (_z0 : (n.me == 0) = true) (_u0 : (n.up != 0) = true) (HC : Hid (∀ W, Below w.heap.size w W → Calls Tryd.prog 30 #[.slice T N Nc] W fun e w' => e = .returned (.int .i64 0) ∧ W = w')) :
    Calls Tryd.prog 9 #[.slice T N Nc, n.val] w fun r w' => r = .returned (.int .i64 9) ∧ Below w.heap.size w w' := by
  have HA := Lib.hid (OneAt.new w n)
  obtain ⟨WA, hWA⟩ : ∃ WA, WA = w.alloc (.cells #[.int .i64 n.me, .int .i64 n.ep, .int .i64 n.up, .bool n.rd, .string n.t, .slice n.sA n.S.length n.sc, .slice n.uA n.U.length n.uc, .slice n.mA n.M.length n.mc] 28) := ⟨_, rfl⟩
  rw [← hWA] at HA
  have HW := Lib.hid hWA.symm
  clear hWA
  go_enter Tryd.func9, Tryd.ntmps9
  go_wp2_with fail
  rw [HW.out]
  refine (HC.out _ HA.out.b).mono ?_
  rintro e w1 ⟨rfl, rfl⟩
  obtain ⟨n0, n1, n2, n3, n4, n5, n6, n7, nz⟩ := node_cell HA.out.nd
  have hw1 : wrap64 ((N : Int) - 1) = (N : Int) - 1 := wrap_pred hN0 hN
  go_wp2_with fail
  refine (In_yes n.me 0 ((N : Int) - 1) _ Hme.out.1 Hme.out.2).mono ?_
  rintro e wi ⟨rfl, rfl⟩
  go_wp2_with fail
  refine (In_yes n.ep 1 1048575 _ Hep.out.1 Hep.out.2).mono ?_
  rintro e wi ⟨rfl, rfl⟩
  go_wp2_with fail
  refine (In_yes n.up 0 1048576 _ Hup.out.1 Hup.out.2).mono ?_
  rintro e wi ⟨rfl, rfl⟩
  go_wp2_with fail
  go_ret
  exact ⟨rfl, HA.out.b⟩
set_option maxHeartbeats 1000000 in
theorem NodeFault_tx_p (w : World) (T : Option Addr) (N Nc : Nat) (n : NodeV) (HT : Hid (Tabs w)) (_HI : Hid (n.In w)) (hN0 : 0 < N) (hN : N ≤ 7) (Hme : Hid (0 ≤ n.me ∧ n.me ≤ (N : Int) - 1)) (Hep : Hid (1 ≤ n.ep ∧ n.ep ≤ 1048575)) (Hup : Hid (0 ≤ n.up ∧ n.up ≤ 1048576)) (_z0 : (n.me == 0) = false) (_zp : decide (0 < n.me) = true) (er : Int) (_he : (er != 0) = true) (HC : Hid (∀ W, Below w.heap.size w W → Calls Tryd.prog 30 #[.slice T N Nc] W fun e w' => e = .returned (.int .i64 0) ∧ W = w')) (HX : Hid (∀ W, Tabs W → Calls Tryd.prog 32 #[.string n.t] W fun e w' => e = .returned (.int .i64 er) ∧ Below W.heap.size W w')) :
    Calls Tryd.prog 9 #[.slice T N Nc, n.val] w fun r w' => r = .returned (.int .i64 9) ∧ Below w.heap.size w w' := by
  have HA := Lib.hid (OneAt.new w n)
  obtain ⟨WA, hWA⟩ : ∃ WA, WA = w.alloc (.cells #[.int .i64 n.me, .int .i64 n.ep, .int .i64 n.up, .bool n.rd, .string n.t, .slice n.sA n.S.length n.sc, .slice n.uA n.U.length n.uc, .slice n.mA n.M.length n.mc] 28) := ⟨_, rfl⟩
  rw [← hWA] at HA
  have HW := Lib.hid hWA.symm
  clear hWA
  go_enter Tryd.func9, Tryd.ntmps9
  go_wp2_with fail
  rw [HW.out]
  refine (HC.out _ HA.out.b).mono ?_
  rintro e w1 ⟨rfl, rfl⟩
  obtain ⟨n0, n1, n2, n3, n4, n5, n6, n7, nz⟩ := node_cell HA.out.nd
  have hw1 : wrap64 ((N : Int) - 1) = (N : Int) - 1 := wrap_pred hN0 hN
  go_wp2_with fail
  refine (In_yes n.me 0 ((N : Int) - 1) _ Hme.out.1 Hme.out.2).mono ?_
  rintro e wi ⟨rfl, rfl⟩
  go_wp2_with fail
  refine (In_yes n.ep 1 1048575 _ Hep.out.1 Hep.out.2).mono ?_
  rintro e wi ⟨rfl, rfl⟩
  go_wp2_with fail
  refine (In_yes n.up 0 1048576 _ Hup.out.1 Hup.out.2).mono ?_
  rintro e wi ⟨rfl, rfl⟩
  go_wp2_with fail
  refine (HX.out _ (HT.out.later HA.out.b)).mono ?_
  rintro e w2 ⟨rfl, hb2⟩
  have H2 := Lib.hid (HA.out.later hb2)
  clear n0 n1 n2 n3 n4 n5 n6 n7 nz
  obtain ⟨n0, n1, n2, n3, n4, n5, n6, n7, nz⟩ := node_cell H2.out.nd
  clear hb2
  go_wp2_with fail
  go_ret
  exact ⟨rfl, H2.out.b⟩
set_option maxHeartbeats 1000000 in
theorem NodeFault_tx_z (w : World) (T : Option Addr) (N Nc : Nat) (n : NodeV) (HT : Hid (Tabs w)) (_HI : Hid (n.In w)) (hN0 : 0 < N) (hN : N ≤ 7) (Hme : Hid (0 ≤ n.me ∧ n.me ≤ (N : Int) - 1)) (Hep : Hid (1 ≤ n.ep ∧ n.ep ≤ 1048575)) (Hup : Hid (0 ≤ n.up ∧ n.up ≤ 1048576)) (_z0 : (n.me == 0) = true) (_zp : decide (0 < n.me) = false) (_u0 : (n.up != 0) = false) (er : Int) (_he : (er != 0) = true) (HC : Hid (∀ W, Below w.heap.size w W → Calls Tryd.prog 30 #[.slice T N Nc] W fun e w' => e = .returned (.int .i64 0) ∧ W = w')) (HX : Hid (∀ W, Tabs W → Calls Tryd.prog 32 #[.string n.t] W fun e w' => e = .returned (.int .i64 er) ∧ Below W.heap.size W w')) :
    Calls Tryd.prog 9 #[.slice T N Nc, n.val] w fun r w' => r = .returned (.int .i64 9) ∧ Below w.heap.size w w' := by
  have HA := Lib.hid (OneAt.new w n)
  obtain ⟨WA, hWA⟩ : ∃ WA, WA = w.alloc (.cells #[.int .i64 n.me, .int .i64 n.ep, .int .i64 n.up, .bool n.rd, .string n.t, .slice n.sA n.S.length n.sc, .slice n.uA n.U.length n.uc, .slice n.mA n.M.length n.mc] 28) := ⟨_, rfl⟩
  rw [← hWA] at HA
  have HW := Lib.hid hWA.symm
  clear hWA
  go_enter Tryd.func9, Tryd.ntmps9
  go_wp2_with fail
  rw [HW.out]
  refine (HC.out _ HA.out.b).mono ?_
  rintro e w1 ⟨rfl, rfl⟩
  obtain ⟨n0, n1, n2, n3, n4, n5, n6, n7, nz⟩ := node_cell HA.out.nd
  have hw1 : wrap64 ((N : Int) - 1) = (N : Int) - 1 := wrap_pred hN0 hN
  go_wp2_with fail
  refine (In_yes n.me 0 ((N : Int) - 1) _ Hme.out.1 Hme.out.2).mono ?_
  rintro e wi ⟨rfl, rfl⟩
  go_wp2_with fail
  refine (In_yes n.ep 1 1048575 _ Hep.out.1 Hep.out.2).mono ?_
  rintro e wi ⟨rfl, rfl⟩
  go_wp2_with fail
  refine (In_yes n.up 0 1048576 _ Hup.out.1 Hup.out.2).mono ?_
  rintro e wi ⟨rfl, rfl⟩
  go_wp2_with fail
  refine (HX.out _ (HT.out.later HA.out.b)).mono ?_
  rintro e w2 ⟨rfl, hb2⟩
  have H2 := Lib.hid (HA.out.later hb2)
  clear n0 n1 n2 n3 n4 n5 n6 n7 nz
  obtain ⟨n0, n1, n2, n3, n4, n5, n6, n7, nz⟩ := node_cell H2.out.nd
  clear hb2
  go_wp2_with fail
  go_ret
  exact ⟨rfl, H2.out.b⟩
end Go.Proofs.YtbmdepbmejnlkaaDoor
namespace Go.Proofs.YtbmdepbmejnlkaaDoor
open Go.ChangeShapes Go.WideShapes Go.ChangeAt Go.RowKit
set_option maxRecDepth 100000
set_option maxHeartbeats 1000000 in
theorem NodeFault_lens_p (w : World) (T : Option Addr) (N Nc : Nat) (n : NodeV) (HT : Hid (Tabs w)) (_HI : Hid (n.In w)) (hN0 : 0 < N) (hN : N ≤ 7) (pl : List Int) (Hme : Hid (0 ≤ n.me ∧ n.me ≤ (N : Int) - 1)) (Hep : Hid (1 ≤ n.ep ∧ n.ep ≤ 1048575)) (Hup : Hid (0 ≤ n.up ∧ n.up ≤ 1048576)) (_z0 : (n.me == 0) = false) (_zp : decide (0 < n.me) = true) (HX9 : Hid (¬ (pl.length = n.S.length ∧ n.U.length ≤ 12 ∧ n.M.length ≤ 1 ∧ (n.rd = false → n.me ≠ 0 ∧ n.t.toList = [] ∧ n.U.length = 0 ∧ n.M.length = 0)))) (HC : Hid (∀ W, Below w.heap.size w W → Calls Tryd.prog 30 #[.slice T N Nc] W fun e w' => e = .returned (.int .i64 0) ∧ W = w')) (HX : Hid (∀ W, Tabs W → Calls Tryd.prog 32 #[.string n.t] W fun e w' => e = .returned (.int .i64 0) ∧ Below W.heap.size W w')) (HL : Hid (∀ W, Below w.heap.size w W → Calls Tryd.prog 33 #[.slice T N Nc, .int .i64 n.me] W (RetInts W pl))) :
    Calls Tryd.prog 9 #[.slice T N Nc, n.val] w fun r w' => r = .returned (.int .i64 9) ∧ Below w.heap.size w w' := by
  have HA := Lib.hid (OneAt.new w n)
  obtain ⟨WA, hWA⟩ : ∃ WA, WA = w.alloc (.cells #[.int .i64 n.me, .int .i64 n.ep, .int .i64 n.up, .bool n.rd, .string n.t, .slice n.sA n.S.length n.sc, .slice n.uA n.U.length n.uc, .slice n.mA n.M.length n.mc] 28) := ⟨_, rfl⟩
  rw [← hWA] at HA
  have HW := Lib.hid hWA.symm
  clear hWA
  go_enter Tryd.func9, Tryd.ntmps9
  go_wp2_with fail
  rw [HW.out]
  refine (HC.out _ HA.out.b).mono ?_
  rintro e w1 ⟨rfl, rfl⟩
  obtain ⟨n0, n1, n2, n3, n4, n5, n6, n7, nz⟩ := node_cell HA.out.nd
  have hw1 : wrap64 ((N : Int) - 1) = (N : Int) - 1 := wrap_pred hN0 hN
  go_wp2_with fail
  refine (In_yes n.me 0 ((N : Int) - 1) _ Hme.out.1 Hme.out.2).mono ?_
  rintro e wi ⟨rfl, rfl⟩
  go_wp2_with fail
  refine (In_yes n.ep 1 1048575 _ Hep.out.1 Hep.out.2).mono ?_
  rintro e wi ⟨rfl, rfl⟩
  go_wp2_with fail
  refine (In_yes n.up 0 1048576 _ Hup.out.1 Hup.out.2).mono ?_
  rintro e wi ⟨rfl, rfl⟩
  go_wp2_with fail
  refine (HX.out _ (HT.out.later HA.out.b)).mono ?_
  rintro e w2 ⟨rfl, hb2⟩
  have H2 := Lib.hid (HA.out.later hb2)
  clear n0 n1 n2 n3 n4 n5 n6 n7 nz
  obtain ⟨n0, n1, n2, n3, n4, n5, n6, n7, nz⟩ := node_cell H2.out.nd
  clear hb2
  go_wp2_with fail
  refine (HL.out _ H2.out.b).mono ?_
  rintro e w3 ⟨Aa, ca, rfl, hpl, hb3⟩
  have H3 := Lib.hid (H2.out.later hb3)
  have HPL := Lib.hid hpl
  clear n0 n1 n2 n3 n4 n5 n6 n7 nz
  obtain ⟨n0, n1, n2, n3, n4, n5, n6, n7, nz⟩ := node_cell H3.out.nd
  clear hb3 hpl
  go_wp2_with fail
  all_goals (first
    | (go_ret; exact ⟨rfl, H3.out.b⟩)
    | (exfalso; exact HX9.out ⟨by omega, by omega, by omega, fun hr => by first | (exfalso; simp_all; done) | exact ⟨by simpa using _z0, by assumption, by first | omega | (exact List.length_eq_zero_iff.2 (by assumption)) | (simp_all; done), by first | omega | (exact List.length_eq_zero_iff.2 (by assumption)) | (simp_all; done) | (trace_state; done)⟩⟩))
set_option maxHeartbeats 1000000 in
theorem NodeFault_lens_z (w : World) (T : Option Addr) (N Nc : Nat) (n : NodeV) (HT : Hid (Tabs w)) (_HI : Hid (n.In w)) (hN0 : 0 < N) (hN : N ≤ 7) (pl : List Int) (Hme : Hid (0 ≤ n.me ∧ n.me ≤ (N : Int) - 1)) (Hep : Hid (1 ≤ n.ep ∧ n.ep ≤ 1048575)) (Hup : Hid (0 ≤ n.up ∧ n.up ≤ 1048576)) (_z0 : (n.me == 0) = true) (_zp : decide (0 < n.me) = false) (_u0 : (n.up != 0) = false) (HX9 : Hid (¬ (pl.length = n.S.length ∧ n.U.length ≤ 12 ∧ n.M.length ≤ 1 ∧ (n.rd = false → n.me ≠ 0 ∧ n.t.toList = [] ∧ n.U.length = 0 ∧ n.M.length = 0)))) (HC : Hid (∀ W, Below w.heap.size w W → Calls Tryd.prog 30 #[.slice T N Nc] W fun e w' => e = .returned (.int .i64 0) ∧ W = w')) (HX : Hid (∀ W, Tabs W → Calls Tryd.prog 32 #[.string n.t] W fun e w' => e = .returned (.int .i64 0) ∧ Below W.heap.size W w')) (HL : Hid (∀ W, Below w.heap.size w W → Calls Tryd.prog 33 #[.slice T N Nc, .int .i64 n.me] W (RetInts W pl))) :
    Calls Tryd.prog 9 #[.slice T N Nc, n.val] w fun r w' => r = .returned (.int .i64 9) ∧ Below w.heap.size w w' := by
  have HA := Lib.hid (OneAt.new w n)
  obtain ⟨WA, hWA⟩ : ∃ WA, WA = w.alloc (.cells #[.int .i64 n.me, .int .i64 n.ep, .int .i64 n.up, .bool n.rd, .string n.t, .slice n.sA n.S.length n.sc, .slice n.uA n.U.length n.uc, .slice n.mA n.M.length n.mc] 28) := ⟨_, rfl⟩
  rw [← hWA] at HA
  have HW := Lib.hid hWA.symm
  clear hWA
  go_enter Tryd.func9, Tryd.ntmps9
  go_wp2_with fail
  rw [HW.out]
  refine (HC.out _ HA.out.b).mono ?_
  rintro e w1 ⟨rfl, rfl⟩
  obtain ⟨n0, n1, n2, n3, n4, n5, n6, n7, nz⟩ := node_cell HA.out.nd
  have hw1 : wrap64 ((N : Int) - 1) = (N : Int) - 1 := wrap_pred hN0 hN
  go_wp2_with fail
  refine (In_yes n.me 0 ((N : Int) - 1) _ Hme.out.1 Hme.out.2).mono ?_
  rintro e wi ⟨rfl, rfl⟩
  go_wp2_with fail
  refine (In_yes n.ep 1 1048575 _ Hep.out.1 Hep.out.2).mono ?_
  rintro e wi ⟨rfl, rfl⟩
  go_wp2_with fail
  refine (In_yes n.up 0 1048576 _ Hup.out.1 Hup.out.2).mono ?_
  rintro e wi ⟨rfl, rfl⟩
  go_wp2_with fail
  refine (HX.out _ (HT.out.later HA.out.b)).mono ?_
  rintro e w2 ⟨rfl, hb2⟩
  have H2 := Lib.hid (HA.out.later hb2)
  clear n0 n1 n2 n3 n4 n5 n6 n7 nz
  obtain ⟨n0, n1, n2, n3, n4, n5, n6, n7, nz⟩ := node_cell H2.out.nd
  clear hb2
  go_wp2_with fail
  refine (HL.out _ H2.out.b).mono ?_
  rintro e w3 ⟨Aa, ca, rfl, hpl, hb3⟩
  have H3 := Lib.hid (H2.out.later hb3)
  have HPL := Lib.hid hpl
  clear n0 n1 n2 n3 n4 n5 n6 n7 nz
  obtain ⟨n0, n1, n2, n3, n4, n5, n6, n7, nz⟩ := node_cell H3.out.nd
  clear hb3 hpl
  go_wp2_with fail
  all_goals (first
    | (go_ret; exact ⟨rfl, H3.out.b⟩)
    | (exfalso; exact HX9.out ⟨by omega, by omega, by omega, fun hr => by first | (exfalso; simp_all; done) | exact ⟨by simpa using _z0, by assumption, by first | omega | (exact List.length_eq_zero_iff.2 (by assumption)) | (simp_all; done), by first | omega | (exact List.length_eq_zero_iff.2 (by assumption)) | (simp_all; done) | (trace_state; done)⟩⟩))
end Go.Proofs.YtbmdepbmejnlkaaDoor
