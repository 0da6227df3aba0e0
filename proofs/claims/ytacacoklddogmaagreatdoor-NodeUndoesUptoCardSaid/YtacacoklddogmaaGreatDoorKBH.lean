/- A part of the proof of NodeUndoes. -/
import Derived.Test.YtacacoklddogmaaGreatDoorKBG
import Derived.Test.YtacacoklddogmaaGreatDoorKLinkD
import Derived.RangeFuncNested
import Derived.RangeFuncBound
import Derived.RangeFuncCalls
import Derived.RangeFuncLeaves
import Derived.RangeFuncBox
import Derived.Shelf.Abstract
import Derived.Shelf.RegionOpen
import Derived.WalkKit
import Derived.OwnWalkIn
import Derived.TacticsInMore
import Derived.LoopNIn
import Derived.LoopIn
namespace Go.Proofs.YtacacoklddogmaaGreatDoor
set_option maxHeartbeats 4000000
open Go.ChangeShapes Go.WideShapes Go.ChangeAt Go.RowKit
set_option maxRecDepth 100000
theorem yu_ {a b : Int} (h1 : 0 ≤ a ∧ a ≤ 1048576) (h2 : 0 ≤ b ∧ b ≤ 1048576) : wrap64 (a + b) = a + b := by
 unfold wrap64
 omega
theorem gd_ {n : Nat} (hp : 0 < n) (hm : n ≤ 1048576) : wrap64 ((n : Int) - 1) = ((n - 1 : Nat) : Int) := by
 unfold wrap64
 omega
theorem zy_ (w : World) (n : NodeV) (x : SideV) (HT : Hid (Tabs w)) (HX : Hid (x.In w)) (HE : Hid (∀ W, Tabs W → OpsIn W x.A x.L → Calls Tryz.prog 122 #[edgeV x.s x.h x.A x.L.length x.c] W (R_ W (.int .i64 9)))) :
 Calls Tryz.prog 87 #[n.val, x.val] w fun r w' => (∃ b : Bool, r = .returned (.bool b) ∧ (b = true ↔ False)) ∧ Below w.heap.size w w' := by
 have HA := h_ (TwoAt.new w n x)
 obtain ⟨WA, hWA⟩ : ∃ WA, WA = (w.alloc (.cells #[.int .i64 n.me, .int .i64 n.ep, .int .i64 n.up, .bool n.rd, .string n.t, .slice n.sA n.S.length n.sc, .slice n.uA n.U.length n.uc, .slice n.mA n.M.length n.mc] 28)).alloc (.cells #[.int .i64 x.p, .bool x.j, .int .i64 x.s, .int .i64 x.h, .slice x.A x.L.length x.c, .int .i64 x.k.e, .int .i64 x.k.n, .slice x.k.sA x.k.s.length x.k.sc, .slice x.k.qA x.k.q.length x.k.qc, .int .i64 x.k.h] 60) := ⟨_, rfl⟩
 rw [← hWA] at HA
 have HW := h_ hWA.symm
 clear hWA
 obtain ⟨me, ep, up, rd, t, sA, sc, S, uA, uc, U, mA, mc, M⟩ := n
 obtain ⟨p, j, s, h, A, c, L, k⟩ := x
 dsimp only at *
 go_enter Tryz.func87, Tryz.ntmps87
 go_wp2_with fail
 rw [HW.out]
 refine (HE.out _ (HT.out.later HA.out.b) (HX.out.ops.later HA.out.b)).mono ?_
 rintro e w1 ⟨rfl, hb1⟩
 have H1 := h_ (HA.out.later hb1)
 obtain ⟨_, x1, x2, x3, x4, x5, x6, x7, x8, x9, xz⟩ := v_ H1.out.sd
 (try dsimp only at x1 x2 x3 x4 x5 x6 x7 x8 x9)
 clear hb1
 go_wp2_with fail
 go_ret
 exact ⟨⟨_, rfl, by simp⟩, H1.out.b⟩
theorem zz_ (w : World) (n : NodeV) (x : SideV) (HT : Hid (Tabs w)) (HX : Hid (x.In w)) (HE : Hid (∀ W, Tabs W → OpsIn W x.A x.L → Calls Tryz.prog 122 #[edgeV x.s x.h x.A x.L.length x.c] W (R_ W (.int .i64 0)))) (HL : Hid (∀ W, Tabs W → x.k.In W → Calls Tryz.prog 110 #[x.k.val] W (R_ W (.int .i64 9)))) :
 Calls Tryz.prog 87 #[n.val, x.val] w fun r w' => (∃ b : Bool, r = .returned (.bool b) ∧ (b = true ↔ False)) ∧ Below w.heap.size w w' := by
 have HA := h_ (TwoAt.new w n x)
 obtain ⟨WA, hWA⟩ : ∃ WA, WA = (w.alloc (.cells #[.int .i64 n.me, .int .i64 n.ep, .int .i64 n.up, .bool n.rd, .string n.t, .slice n.sA n.S.length n.sc, .slice n.uA n.U.length n.uc, .slice n.mA n.M.length n.mc] 28)).alloc (.cells #[.int .i64 x.p, .bool x.j, .int .i64 x.s, .int .i64 x.h, .slice x.A x.L.length x.c, .int .i64 x.k.e, .int .i64 x.k.n, .slice x.k.sA x.k.s.length x.k.sc, .slice x.k.qA x.k.q.length x.k.qc, .int .i64 x.k.h] 60) := ⟨_, rfl⟩
 rw [← hWA] at HA
 have HW := h_ hWA.symm
 clear hWA
 obtain ⟨me, ep, up, rd, t, sA, sc, S, uA, uc, U, mA, mc, M⟩ := n
 obtain ⟨p, j, s, h, A, c, L, k⟩ := x
 dsimp only at *
 go_enter Tryz.func87, Tryz.ntmps87
 go_wp2_with fail
 rw [HW.out]
 refine (HE.out _ (HT.out.later HA.out.b) (HX.out.ops.later HA.out.b)).mono ?_
 rintro e w1 ⟨rfl, hb1⟩
 have H1 := h_ (HA.out.later hb1)
 obtain ⟨_, x1, x2, x3, x4, x5, x6, x7, x8, x9, xz⟩ := v_ H1.out.sd
 (try dsimp only at x1 x2 x3 x4 x5 x6 x7 x8 x9)
 clear hb1
 go_wp2_with fail
 refine (HL.out _ (HT.out.later H1.out.b) (HX.out.link.later H1.out.b)).mono ?_
 rintro e w2 ⟨rfl, hb2⟩
 have H2 := h_ (H1.out.later hb2)
 clear x1 x2 x3 x4 x5 x6 x7 x8 x9 xz
 obtain ⟨_, x1, x2, x3, x4, x5, x6, x7, x8, x9, xz⟩ := v_ H2.out.sd
 obtain ⟨_, _, _, n3, n4, _, _, _, nz⟩ := d_ H2.out.nd
 (try dsimp only at x1 x2 x3 x4 x5 x6 x7 x8 x9 n3 n4)
 clear hb2
 go_wp2_with fail
 go_ret
 exact ⟨⟨_, rfl, by simp⟩, H2.out.b⟩
theorem baa_ (w : World) (n : NodeV) (x : SideV) (HT : Hid (Tabs w)) (HX : Hid (x.In w)) (hj : x.j = false) (h1 : 0 ≤ x.s ∧ x.s ≤ 1048576) (h2 : 0 ≤ x.h ∧ x.h ≤ 1048576) (HE : Hid (∀ W, Tabs W → OpsIn W x.A x.L → Calls Tryz.prog 122 #[edgeV x.s x.h x.A x.L.length x.c] W (R_ W (.int .i64 0)))) (HL : Hid (∀ W, Tabs W → x.k.In W → Calls Tryz.prog 110 #[x.k.val] W (R_ W (.int .i64 0)))) :
 Calls Tryz.prog 87 #[n.val, x.val] w fun r w' => (∃ b : Bool, r = .returned (.bool b) ∧ (b = true ↔ x.s = 0 ∧ x.h = 0)) ∧ Below w.heap.size w w' := by
 have hw : wrap64 (x.s + x.h) = x.s + x.h := yu_ h1 h2
 have HB := h_ (And.intro h1 h2)
 clear h1 h2
 have HA := h_ (TwoAt.new w n x)
 obtain ⟨WA, hWA⟩ : ∃ WA, WA = (w.alloc (.cells #[.int .i64 n.me, .int .i64 n.ep, .int .i64 n.up, .bool n.rd, .string n.t, .slice n.sA n.S.length n.sc, .slice n.uA n.U.length n.uc, .slice n.mA n.M.length n.mc] 28)).alloc (.cells #[.int .i64 x.p, .bool x.j, .int .i64 x.s, .int .i64 x.h, .slice x.A x.L.length x.c, .int .i64 x.k.e, .int .i64 x.k.n, .slice x.k.sA x.k.s.length x.k.sc, .slice x.k.qA x.k.q.length x.k.qc, .int .i64 x.k.h] 60) := ⟨_, rfl⟩
 rw [← hWA] at HA
 have HW := h_ hWA.symm
 clear hWA
 obtain ⟨me, ep, up, rd, t, sA, sc, S, uA, uc, U, mA, mc, M⟩ := n
 obtain ⟨p, j, s, h, A, c, L, k⟩ := x
 dsimp only at *
 subst hj
 go_enter Tryz.func87, Tryz.ntmps87
 go_wp2_with fail
 rw [HW.out]
 refine (HE.out _ (HT.out.later HA.out.b) (HX.out.ops.later HA.out.b)).mono ?_
 rintro e w1 ⟨rfl, hb1⟩
 have H1 := h_ (HA.out.later hb1)
 obtain ⟨_, x1, x2, x3, x4, x5, x6, x7, x8, x9, xz⟩ := v_ H1.out.sd
 (try dsimp only at x1 x2 x3 x4 x5 x6 x7 x8 x9)
 clear hb1
 go_wp2_with fail
 refine (HL.out _ (HT.out.later H1.out.b) (HX.out.link.later H1.out.b)).mono ?_
 rintro e w2 ⟨rfl, hb2⟩
 have H2 := h_ (H1.out.later hb2)
 clear x1 x2 x3 x4 x5 x6 x7 x8 x9 xz
 obtain ⟨_, x1, x2, x3, x4, x5, x6, x7, x8, x9, xz⟩ := v_ H2.out.sd
 obtain ⟨_, _, _, n3, n4, _, _, _, nz⟩ := d_ H2.out.nd
 (try dsimp only at x1 x2 x3 x4 x5 x6 x7 x8 x9 n3 n4)
 clear hb2
 go_wp2_with fail
 all_goals (
  go_ret
  refine ⟨⟨_, rfl, ?_⟩, H2.out.b⟩
  have := HB.out
  simp
  omega)
theorem bab_ (w : World) (n : NodeV) (x : SideV) (HT : Hid (Tabs w)) (HX : Hid (x.In w)) (hj : x.j = true) (he : 0 ≤ x.k.e) (_hL : decide (0 < x.L.length) = false) (HE : Hid (∀ W, Tabs W → OpsIn W x.A x.L → Calls Tryz.prog 122 #[edgeV x.s x.h x.A x.L.length x.c] W (R_ W (.int .i64 0)))) (HL : Hid (∀ W, Tabs W → x.k.In W → Calls Tryz.prog 110 #[x.k.val] W (R_ W (.int .i64 0)))) :
 Calls Tryz.prog 87 #[n.val, x.val] w fun r w' => (∃ b : Bool, r = .returned (.bool b) ∧ (b = true ↔ n.rd = true ∧ x.k.e ≠ 0)) ∧ Below w.heap.size w w' := by
 have HA := h_ (TwoAt.new w n x)
 obtain ⟨WA, hWA⟩ : ∃ WA, WA = (w.alloc (.cells #[.int .i64 n.me, .int .i64 n.ep, .int .i64 n.up, .bool n.rd, .string n.t, .slice n.sA n.S.length n.sc, .slice n.uA n.U.length n.uc, .slice n.mA n.M.length n.mc] 28)).alloc (.cells #[.int .i64 x.p, .bool x.j, .int .i64 x.s, .int .i64 x.h, .slice x.A x.L.length x.c, .int .i64 x.k.e, .int .i64 x.k.n, .slice x.k.sA x.k.s.length x.k.sc, .slice x.k.qA x.k.q.length x.k.qc, .int .i64 x.k.h] 60) := ⟨_, rfl⟩
 rw [← hWA] at HA
 have HW := h_ hWA.symm
 clear hWA
 obtain ⟨me, ep, up, rd, t, sA, sc, S, uA, uc, U, mA, mc, M⟩ := n
 obtain ⟨p, j, s, h, A, c, L, k⟩ := x
 dsimp only at *
 subst hj
 cases rd
 all_goals (
  go_enter Tryz.func87, Tryz.ntmps87
  go_wp2_with fail
  rw [HW.out]
  refine (HE.out _ (HT.out.later HA.out.b) (HX.out.ops.later HA.out.b)).mono ?_
  rintro e w1 ⟨rfl, hb1⟩
  have H1 := h_ (HA.out.later hb1)
  obtain ⟨_, x1, x2, x3, x4, x5, x6, x7, x8, x9, xz⟩ := v_ H1.out.sd
  (try dsimp only at x1 x2 x3 x4 x5 x6 x7 x8 x9)
  clear hb1
  go_wp2_with fail
  refine (HL.out _ (HT.out.later H1.out.b) (HX.out.link.later H1.out.b)).mono ?_
  rintro e w2 ⟨rfl, hb2⟩
  have H2 := h_ (H1.out.later hb2)
  clear x1 x2 x3 x4 x5 x6 x7 x8 x9 xz
  obtain ⟨_, x1, x2, x3, x4, x5, x6, x7, x8, x9, xz⟩ := v_ H2.out.sd
  obtain ⟨_, _, _, n3, n4, _, _, _, nz⟩ := d_ H2.out.nd
  (try dsimp only at x1 x2 x3 x4 x5 x6 x7 x8 x9 n3 n4)
  clear hb2
  go_wp2_with fail
  all_goals (
   go_ret
   refine ⟨⟨_, rfl, ?_⟩, H2.out.b⟩
   simp_all
   try omega))
theorem bac_ (w : World) (n : NodeV) (x : SideV) (HT : Hid (Tabs w)) (HX : Hid (x.In w)) (hj : x.j = true) (q : OpV) (HQ : Hid (x.L.getLast? = some q)) (hp : 0 < x.L.length) (hml : x.L.length ≤ 1048576) (ht : ((lens q.ps).2 != (Lib.runeCount n.t : Int)) = true) (HE : Hid (∀ W, Tabs W → OpsIn W x.A x.L → Calls Tryz.prog 122 #[edgeV x.s x.h x.A x.L.length x.c] W (R_ W (.int .i64 0)))) (HL : Hid (∀ W, Tabs W → x.k.In W → Calls Tryz.prog 110 #[x.k.val] W (R_ W (.int .i64 0)))) (HLN : Hid (∀ W, OpIn (· < W.heap.size) W q.A q.ps → Calls Tryz.prog 46 #[.slice q.A q.ps.length q.c] W (R_ W (.tuple #[.int .i64 (lens q.ps).1, .int .i64 (lens q.ps).2])))) (HRC : Hid (∀ W, Calls Tryz.prog 88 #[.string n.t] W (R_ W (.int .i64 (Lib.runeCount n.t))))) :
 Calls Tryz.prog 87 #[n.val, x.val] w fun r w' => (∃ b : Bool, r = .returned (.bool b) ∧ (b = true ↔ False)) ∧ Below w.heap.size w w' := by
 have hw : wrap64 ((x.L.length : Int) - 1) = ((x.L.length - 1 : Nat) : Int) := gd_ hp hml
 have HLS := h_ (fun (W : World) (hs : OpsIn W x.A x.L) => da_ hs HQ.out)
 generalize hr : (Lib.runeCount n.t : Int) = rc at *
 generalize lens q.ps = ln at *
 obtain ⟨l1, l2⟩ := ln
 clear hr
 have HA := h_ (TwoAt.new w n x)
 obtain ⟨WA, hWA⟩ : ∃ WA, WA = (w.alloc (.cells #[.int .i64 n.me, .int .i64 n.ep, .int .i64 n.up, .bool n.rd, .string n.t, .slice n.sA n.S.length n.sc, .slice n.uA n.U.length n.uc, .slice n.mA n.M.length n.mc] 28)).alloc (.cells #[.int .i64 x.p, .bool x.j, .int .i64 x.s, .int .i64 x.h, .slice x.A x.L.length x.c, .int .i64 x.k.e, .int .i64 x.k.n, .slice x.k.sA x.k.s.length x.k.sc, .slice x.k.qA x.k.q.length x.k.qc, .int .i64 x.k.h] 60) := ⟨_, rfl⟩
 rw [← hWA] at HA
 have HW := h_ hWA.symm
 clear hWA
 obtain ⟨me, ep, up, rd, t, sA, sc, S, uA, uc, U, mA, mc, M⟩ := n
 obtain ⟨p, j, s, h, A, c, L, k⟩ := x
 dsimp only at *
 subst hj
 go_enter Tryz.func87, Tryz.ntmps87
 go_wp2_with fail
 rw [HW.out]
 refine (HE.out _ (HT.out.later HA.out.b) (HX.out.ops.later HA.out.b)).mono ?_
 rintro e w1 ⟨rfl, hb1⟩
 have H1 := h_ (HA.out.later hb1)
 obtain ⟨_, x1, x2, x3, x4, x5, x6, x7, x8, x9, xz⟩ := v_ H1.out.sd
 (try dsimp only at x1 x2 x3 x4 x5 x6 x7 x8 x9)
 clear hb1
 go_wp2_with fail
 refine (HL.out _ (HT.out.later H1.out.b) (HX.out.link.later H1.out.b)).mono ?_
 rintro e w2 ⟨rfl, hb2⟩
 have H2 := h_ (H1.out.later hb2)
 clear x1 x2 x3 x4 x5 x6 x7 x8 x9 xz
 obtain ⟨_, x1, x2, x3, x4, x5, x6, x7, x8, x9, xz⟩ := v_ H2.out.sd
 obtain ⟨_, _, _, n3, n4, _, _, _, nz⟩ := d_ H2.out.nd
 (try dsimp only at x1 x2 x3 x4 x5 x6 x7 x8 x9 n3 n4)
 clear hb2
 have HO := h_ (HX.out.ops.later H2.out.b)
 obtain ⟨b, o, hAe, hbs, c0, hop⟩ := HLS.out _ HO.out
 subst hAe
 have HOP := h_ hop
 clear hop
 go_wp2_with fail
 refine (HLN.out _ HOP.out).mono ?_
 rintro e w3 ⟨rfl, hb3⟩
 have H3 := h_ (H2.out.later hb3)
 clear x1 x2 x3 x4 x5 x6 x7 x8 x9 xz n3 n4 nz
 obtain ⟨_, x1, x2, x3, x4, x5, x6, x7, x8, x9, xz⟩ := v_ H3.out.sd
 obtain ⟨_, _, _, n3, n4, _, _, _, nz⟩ := d_ H3.out.nd
 (try dsimp only at x1 x2 x3 x4 x5 x6 x7 x8 x9 n3 n4)
 clear hb3
 go_wp2_with fail
 refine (HRC.out _).mono ?_
 rintro e w4 ⟨rfl, hb4⟩
 have H4 := h_ (H3.out.later hb4)
 clear x1 x2 x3 x4 x5 x6 x7 x8 x9 xz n3 n4 nz
 obtain ⟨_, x1, x2, x3, x4, x5, x6, x7, x8, x9, xz⟩ := v_ H4.out.sd
 obtain ⟨_, _, _, n3, n4, _, _, _, nz⟩ := d_ H4.out.nd
 (try dsimp only at x1 x2 x3 x4 x5 x6 x7 x8 x9 n3 n4)
 clear hb4
 go_wp2_with fail
 go_ret
 exact ⟨⟨_, rfl, by simp⟩, H4.out.b⟩
theorem bad_ (w : World) (n : NodeV) (x : SideV) (HT : Hid (Tabs w)) (HX : Hid (x.In w)) (hj : x.j = true) (he : 0 ≤ x.k.e) (q : OpV) (HQ : Hid (x.L.getLast? = some q)) (hp : 0 < x.L.length) (hml : x.L.length ≤ 1048576) (ht : ((lens q.ps).2 != (Lib.runeCount n.t : Int)) = false) (HE : Hid (∀ W, Tabs W → OpsIn W x.A x.L → Calls Tryz.prog 122 #[edgeV x.s x.h x.A x.L.length x.c] W (R_ W (.int .i64 0)))) (HL : Hid (∀ W, Tabs W → x.k.In W → Calls Tryz.prog 110 #[x.k.val] W (R_ W (.int .i64 0)))) (HLN : Hid (∀ W, OpIn (· < W.heap.size) W q.A q.ps → Calls Tryz.prog 46 #[.slice q.A q.ps.length q.c] W (R_ W (.tuple #[.int .i64 (lens q.ps).1, .int .i64 (lens q.ps).2])))) (HRC : Hid (∀ W, Calls Tryz.prog 88 #[.string n.t] W (R_ W (.int .i64 (Lib.runeCount n.t))))) :
 Calls Tryz.prog 87 #[n.val, x.val] w fun r w' => (∃ b : Bool, r = .returned (.bool b) ∧ (b = true ↔ n.rd = true ∧ x.k.e ≠ 0)) ∧ Below w.heap.size w w' := by
 have hw : wrap64 ((x.L.length : Int) - 1) = ((x.L.length - 1 : Nat) : Int) := gd_ hp hml
 have HLS := h_ (fun (W : World) (hs : OpsIn W x.A x.L) => da_ hs HQ.out)
 generalize hr : (Lib.runeCount n.t : Int) = rc at *
 generalize lens q.ps = ln at *
 obtain ⟨l1, l2⟩ := ln
 clear hr
 have HA := h_ (TwoAt.new w n x)
 obtain ⟨WA, hWA⟩ : ∃ WA, WA = (w.alloc (.cells #[.int .i64 n.me, .int .i64 n.ep, .int .i64 n.up, .bool n.rd, .string n.t, .slice n.sA n.S.length n.sc, .slice n.uA n.U.length n.uc, .slice n.mA n.M.length n.mc] 28)).alloc (.cells #[.int .i64 x.p, .bool x.j, .int .i64 x.s, .int .i64 x.h, .slice x.A x.L.length x.c, .int .i64 x.k.e, .int .i64 x.k.n, .slice x.k.sA x.k.s.length x.k.sc, .slice x.k.qA x.k.q.length x.k.qc, .int .i64 x.k.h] 60) := ⟨_, rfl⟩
 rw [← hWA] at HA
 have HW := h_ hWA.symm
 clear hWA
 obtain ⟨me, ep, up, rd, t, sA, sc, S, uA, uc, U, mA, mc, M⟩ := n
 obtain ⟨p, j, s, h, A, c, L, k⟩ := x
 dsimp only at *
 subst hj
 go_enter Tryz.func87, Tryz.ntmps87
 go_wp2_with fail
 rw [HW.out]
 refine (HE.out _ (HT.out.later HA.out.b) (HX.out.ops.later HA.out.b)).mono ?_
 rintro e w1 ⟨rfl, hb1⟩
 have H1 := h_ (HA.out.later hb1)
 obtain ⟨_, x1, x2, x3, x4, x5, x6, x7, x8, x9, xz⟩ := v_ H1.out.sd
 (try dsimp only at x1 x2 x3 x4 x5 x6 x7 x8 x9)
 clear hb1
 go_wp2_with fail
 refine (HL.out _ (HT.out.later H1.out.b) (HX.out.link.later H1.out.b)).mono ?_
 rintro e w2 ⟨rfl, hb2⟩
 have H2 := h_ (H1.out.later hb2)
 clear x1 x2 x3 x4 x5 x6 x7 x8 x9 xz
 obtain ⟨_, x1, x2, x3, x4, x5, x6, x7, x8, x9, xz⟩ := v_ H2.out.sd
 obtain ⟨_, _, _, n3, n4, _, _, _, nz⟩ := d_ H2.out.nd
 (try dsimp only at x1 x2 x3 x4 x5 x6 x7 x8 x9 n3 n4)
 clear hb2
 have HO := h_ (HX.out.ops.later H2.out.b)
 obtain ⟨b, o, hAe, hbs, c0, hop⟩ := HLS.out _ HO.out
 subst hAe
 have HOP := h_ hop
 clear hop
 go_wp2_with fail
 refine (HLN.out _ HOP.out).mono ?_
 rintro e w3 ⟨rfl, hb3⟩
 have H3 := h_ (H2.out.later hb3)
 clear x1 x2 x3 x4 x5 x6 x7 x8 x9 xz n3 n4 nz
 obtain ⟨_, x1, x2, x3, x4, x5, x6, x7, x8, x9, xz⟩ := v_ H3.out.sd
 obtain ⟨_, _, _, n3, n4, _, _, _, nz⟩ := d_ H3.out.nd
 (try dsimp only at x1 x2 x3 x4 x5 x6 x7 x8 x9 n3 n4)
 clear hb3
 go_wp2_with fail
 refine (HRC.out _).mono ?_
 rintro e w4 ⟨rfl, hb4⟩
 have H4 := h_ (H3.out.later hb4)
 clear x1 x2 x3 x4 x5 x6 x7 x8 x9 xz n3 n4 nz
 obtain ⟨_, x1, x2, x3, x4, x5, x6, x7, x8, x9, xz⟩ := v_ H4.out.sd
 obtain ⟨_, _, _, n3, n4, _, _, _, nz⟩ := d_ H4.out.nd
 (try dsimp only at x1 x2 x3 x4 x5 x6 x7 x8 x9 n3 n4)
 clear hb4
 go_wp2_with fail
 all_goals (
  go_ret
  refine ⟨⟨_, rfl, ?_⟩, H4.out.b⟩
  simp_all
  try omega)
theorem bae_ (w : World) (n : NodeV) (x : SideV) (hT : Tabs w) (hx : x.In w) (hm : x.Small) (ht : n.t.size ≤ 1048576) :
 Calls Tryz.prog 87 #[n.val, x.val] w fun r w' => (∃ b : Bool, r = .returned (.bool b) ∧ (b = true ↔ sideMay n.rd (runesI n.t) x)) ∧ Below w.heap.size w w' := by
 have HE := fun W hT hs => ge_ W x.s x.h x.A x.c x.L hT hs hm.ops
 have HL := fun W hT hs => cy_ W x.k hT hs hm.link
 unfold sideMay
 by_cases h1 : edgeMay x.s x.h x.L
 · rw [show edgeErr x.s x.h x.L = 0 from if_pos h1] at HE
   have h1' := h1
   by_cases h2 : linkMay x.k
   · rw [if_pos h2] at HL
     obtain ⟨⟨⟨a1, a2⟩, a3, a4⟩, _⟩ := h1'
     have he : 0 ≤ x.k.e := h2.1.1.1
     by_cases hj : x.j = false
     · rw [if_pos hj]
       refine (baa_ w n x hT hx hj ⟨a1, a2⟩ ⟨a3, a4⟩ HE HL).mono fun _ _ ⟨⟨b, e, k⟩, hb⟩ => ⟨⟨b, e, k.trans ⟨fun q => ⟨⟨h1, h2⟩, q⟩, fun q => q.2⟩⟩, hb⟩
     · rw [if_neg hj]
       have hj' : x.j = true := by simpa using hj
       cases hl : x.L.getLast? with
       | none =>
        have hL : x.L = [] := by simpa using hl
        refine (bab_ w n x hT hx hj' he (by rw [hL]; rfl) HE HL).mono fun _ _ ⟨⟨b, e, k⟩, hb⟩ => ⟨⟨b, e, k.trans ⟨fun q => ⟨⟨h1, h2⟩, by rw [hL]; exact ht_, q⟩, fun q => q.2.2⟩⟩, hb⟩
       | some q =>
        have hq : q ∈ x.L := List.mem_of_getLast? hl
        have HLN := fun W hs => bt_ W q.A q.c q.ps hs (hm.ops q hq).len (hm.ops q hq).text
        have hf := hi_ (r := runesI n.t) hl
        by_cases hr : (lens q.ps).2 = runesI n.t
        · refine (bad_ w n x hT hx hj' he q hl (bp_ hl) hm.len (by unfold runesI at hr; simpa using hr) HE HL HLN (fun W => cg_ n.t W ht)).mono fun _ _ ⟨⟨b, e, k⟩, hb⟩ => ⟨⟨b, e, k.trans ⟨fun q => ⟨⟨h1, h2⟩, hf.2 hr, q⟩, fun q => q.2.2⟩⟩, hb⟩
        · refine (bac_ w n x hT hx hj' q hl (bp_ hl) hm.len (by unfold runesI at hr; simpa using hr) HE HL HLN (fun W => cg_ n.t W ht)).mono fun _ _ ⟨⟨b, e, k⟩, hb⟩ => ⟨⟨b, e, k.trans ⟨fun q => q.elim, fun q => hr (hf.1 q.2.1)⟩⟩, hb⟩
   · rw [if_neg h2] at HL
     exact (zz_ w n x hT hx HE HL).mono fun _ _ ⟨⟨b, e, k⟩, hb⟩ => ⟨⟨b, e, k.trans ⟨fun q => q.elim, fun q => h2 q.1.2⟩⟩, hb⟩
 · rw [show edgeErr x.s x.h x.L = 9 from if_neg h1] at HE
   exact (zy_ w n x hT hx HE).mono fun _ _ ⟨⟨b, e, k⟩, hb⟩ => ⟨⟨b, e, k.trans ⟨fun q => q.elim, fun q => h1 q.1.1⟩⟩, hb⟩
theorem infoIntP : (Tryz.prog.info? 3).map (fun i => (i.zero, i.size, i.bytes)) = some (some (.int .i64 0), 1, 8) := by kernel_rfl
theorem fe_ {W : World} {cs : List Value} {t : TypeId} {n m : Nat} {A : Option Addr} (hl : cs.length = n * m) (hA : A = some ⟨W.heap.size, 0, none⟩) : Sl (fun _ => True) (W.alloc (.cells cs.toArray t)) m A n cs := by
 subst hA
 exact Sl.new W cs t m n hl trivial
def RetInts (w : World) (zs : List Int) (e : Ending) (w' : World) : Prop :=
 ∃ A c, e = .returned (.slice A zs.length c) ∧ w'.ownsRow w.heap.size 3 1 (.slice A zs.length c) zs.length (zs.map (Value.int .i64)) ∧ Below w.heap.size w w'
abbrev upK (zs : List Int) (me : Int) (k : Nat) : List Int := peerHead zs me ++ kidsTo zs me k
theorem gs_ (zs : List Int) (me : Int) (k : Nat) : (upK zs me k).length ≤ k + 1 := by
 have := ty_ zs me k
 unfold upK peerHead
 split <;> simp <;> omega
theorem zg_ (w : World) (T : Option Addr) (N c : Nat) (zs : List Int) (HZ : Hid (Sl (· < w.heap.size) w 1 T N (zs.map (Value.int .i64)))) (hN : N ≤ 7) (hl : zs.length = N) (m : Nat) (hm : 0 < m) (hmN : m < N) :
 Calls Tryz.prog 85 #[.slice T N c, .int .i64 (m : Int)] w (RetInts w (peers zs (m : Int))) := by
 obtain ⟨k0, hk0, hx0, hx1, hx2⟩ := info_parts infoIntP
 have HH := h_ (show peerHead zs (m : Int) = [zs.getD m 0] by unfold peerHead; rw [if_pos (by omega)]; simp)
 have HPE := h_ (show peers zs (m : Int) = upK zs (m : Int) N by rw [← hl]; rfl)
 obtain ⟨b, o, rfl, hbs, hc⟩ := HZ.out.open_ (by omega)
 have HC := h_ (show ∀ k, k < N → w.cell? ⟨b, o + k, none⟩ = some (.int .i64 (zs.getD k 0)) from fun k hk => hc k _ (ca_ zs k (by omega)))
 clear hc hl
 have hcm := HC.out m hmN
 go_enter Tryz.func85, Tryz.ntmps85
 go_wp2_with (refine bg_ rfl ?_)
 refine ⟨?_⟩
 refine j_ _ rfl _ _ 22 rfl w.heap.size 3 k0 (.int .i64 0) 1 8 Tryz.underlying22 hk0 hx0 hx1 hx2 rfl (by decide) _ _ _ rfl ((World.ownsRow_nil _ _ _ _).alloc _) (fun _ => True) _ _ _ _ rfl (fe_ (by rfl) (by simp)) ?c1 ?c2 ?c3 ?c4 ?_
 case c1 => intro u hu; simp at hu; subst hu; rfl
 case c2 => skip; unfold maxLen; omega
 case c3 => skip; omega
 case c4 => simp
 intro A0 c0 wb hown0 hgrow0 _
 change (w.alloc (Obj.cells #[Value.int IntKind.i64 _] 3)).grownBy wb (Value.slice none 0 0).ownBlock at hgrow0
 have HF0 := h_ (bA_.grown hgrow0 (by simp) (fun g hg => by simp [Value.ownBlock] at hg) : Below w.heap.size w wb)
 have HO0 := h_ (show wb.ownsRow w.heap.size 3 1 (.slice A0 (upK zs (m : Int) 0).length c0) (upK zs (m : Int) 0).length ((upK zs (m : Int) 0).map (Value.int .i64)) by
  have e : upK zs (m : Int) 0 = [zs.getD m 0] := by unfold upK; rw [HH.out, cz_]; rfl
  rw [e]
  simpa using hown0)
 have HE0 := h_ (show (.slice A0 (0 + 1) c0 : Value) = .slice A0 (upK zs (m : Int) 0).length c0 by
  have e : upK zs (m : Int) 0 = [zs.getD m 0] := by unfold upK; rw [HH.out, cz_]; rfl
  rw [e]
  rfl)
 clear hown0 hgrow0
 go_wp2_with fail
 go_loopw [5, 19] (fun out i wr => ∃ (k : Nat) (Ao : Option Addr) (co : Nat), 0 ≤ k ∧ k ≤ N ∧ i = .int .i64 k ∧ out = .slice Ao (upK zs (m : Int) k).length co ∧ Hid (wr.ownsRow w.heap.size 3 1 (.slice Ao (upK zs (m : Int) k).length co) (upK zs (m : Int) k).length ((upK zs (m : Int) k).map (Value.int .i64))) ∧ Hid (Below w.heap.size w wr)) (fun _ i _ => N - (intOf i).toNat)
 case atStart => exact ⟨0, A0, c0, by omega, by omega, rfl, HE0.out, HO0, HF0⟩
 case round =>
  obtain ⟨k, Ao, co, hk1, hk, rfl, rfl, HO, HB⟩ := hrel
  by_cases hlt : k < N
  · have hcx := (HB.out.cell (p := ⟨b, o + k, none⟩) hbs).trans (HC.out k hlt)
    by_cases hp : (zs.getD k 0 == (m : Int)) = true
    · have HU := h_ (show upK zs (m : Int) (k + 1) = upK zs (m : Int) k ++ [(k : Int)] by unfold upK; rw [fa_ hp, List.append_assoc])
      have HUL := h_ (gs_ zs (m : Int) k)
      generalize zs.getD k 0 = p at *
      generalize upK zs (m : Int) k = U at *
      go_wp2_with (refine bg_ rfl ?_)
      refine ⟨?_⟩
      refine j_ _ rfl _ _ 22 rfl w.heap.size 3 k0 (.int .i64 0) 1 8 Tryz.underlying22 hk0 hx0 hx1 hx2 rfl (by decide) _ _ _ rfl (HO.out.alloc _) (fun _ => True) _ _ _ _ rfl (fe_ (by rfl) (by simp)) ?c1 ?c2 ?c3 ?c4 ?_
      case c1 => intro u hu; simp at hu; subst hu; rfl
      case c2 => have := HUL.out; unfold maxLen; omega
      case c3 => have := HUL.out; omega
      case c4 => have := HB.out.size; simp; omega
      intro A1 c1 wb hown1 hgrow1 _
      have HF1 := h_ ((bAlloc HB.out _).grown hgrow1 (by have := HB.out.size; simp; omega) (fun g hg => (HO.out.lt g hg).1) : Below w.heap.size w wb)
      have HO1 := h_ (show wb.ownsRow w.heap.size 3 1 (.slice A1 (U ++ [(k : Int)]).length c1) (U ++ [(k : Int)]).length ((U ++ [(k : Int)]).map (Value.int .i64)) by simpa using hown1)
      have HE1 := h_ (show (.slice A1 (U.length + 1) c1 : Value) = .slice A1 (U ++ [(k : Int)]).length c1 by simp)
      clear hown1 hgrow1
      go_wp2_with fail
      go_roundw
      case rel => exact ⟨k + 1, A1, c1, by omega, by omega, by go_num, by rw [HU.out]; exact HE1.out, by rw [HU.out]; exact HO1, HF1⟩
      case measure => simp [intOf]; omega
    · have hp' : (zs.getD k 0 == (m : Int)) = false := by simpa using hp
      have HU := h_ (show upK zs (m : Int) (k + 1) = upK zs (m : Int) k by unfold upK; rw [dv_ hp'])
      clear hp
      generalize zs.getD k 0 = p at *
      generalize upK zs (m : Int) k = U at *
      go_wp2_with fail
      go_roundw
      case rel => exact ⟨k + 1, Ao, co, by omega, by omega, by go_num, by rw [HU.out], by rw [HU.out]; exact HO, HB⟩
      case measure => simp [intOf]; omega
  · obtain rfl : k = N := by omega
    generalize upK zs (m : Int) k = U at *
    go_wp2_with fail
    go_ret
    exact ⟨Ao, co, by rw [HPE.out]; rfl, by rw [HPE.out]; exact HO.out, HB.out⟩
theorem zh_ (w : World) (T : Option Addr) (N c : Nat) (zs : List Int) (HZ : Hid (Sl (· < w.heap.size) w 1 T N (zs.map (Value.int .i64)))) (hN : N ≤ 7) (hl : zs.length = N) (h0 : 0 < N) :
 Calls Tryz.prog 85 #[.slice T N c, .int .i64 0] w (RetInts w (peers zs 0)) := by
 obtain ⟨k0, hk0, hx0, hx1, hx2⟩ := info_parts infoIntP
 have HH := h_ (show peerHead zs 0 = [] from rfl)
 have HPE := h_ (show peers zs 0 = upK zs 0 N by rw [← hl]; rfl)
 obtain ⟨b, o, rfl, hbs, hc⟩ := HZ.out.open_ (by omega)
 have HC := h_ (show ∀ k, k < N → w.cell? ⟨b, o + k, none⟩ = some (.int .i64 (zs.getD k 0)) from fun k hk => hc k _ (ca_ zs k (by omega)))
 clear hc hl
 go_enter Tryz.func85, Tryz.ntmps85
 go_wp2_with fail
 go_loopw [5, 19] (fun out i wr => ∃ (k : Nat) (Ao : Option Addr) (co : Nat), 0 ≤ k ∧ k ≤ N ∧ i = .int .i64 k ∧ out = .slice Ao (upK zs 0 k).length co ∧ Hid (wr.ownsRow w.heap.size 3 1 (.slice Ao (upK zs 0 k).length co) (upK zs 0 k).length ((upK zs 0 k).map (Value.int .i64))) ∧ Hid (Below w.heap.size w wr)) (fun _ i _ => N - (intOf i).toNat)
 case atStart => exact ⟨0, none, 0, by omega, by omega, rfl, by rw [show upK zs 0 0 = [] by unfold upK; rw [HH.out, cz_]; rfl]; rfl, by rw [show upK zs 0 0 = [] by unfold upK; rw [HH.out, cz_]; rfl]; exact World.ownsRow_nil _ _ _ _, Below.refl _ _⟩
 case round =>
  obtain ⟨k, Ao, co, hk1, hk, rfl, rfl, HO, HB⟩ := hrel
  by_cases hlt : k < N
  · have hcx := (HB.out.cell (p := ⟨b, o + k, none⟩) hbs).trans (HC.out k hlt)
    by_cases hp : (zs.getD k 0 == 0) = true
    · have HU := h_ (show upK zs 0 (k + 1) = upK zs 0 k ++ [(k : Int)] by unfold upK; rw [fa_ hp, List.append_assoc])
      have HUL := h_ (gs_ zs 0 k)
      generalize zs.getD k 0 = p at *
      generalize upK zs 0 k = U at *
      go_wp2_with (refine bg_ rfl ?_)
      refine ⟨?_⟩
      refine j_ _ rfl _ _ 22 rfl w.heap.size 3 k0 (.int .i64 0) 1 8 Tryz.underlying22 hk0 hx0 hx1 hx2 rfl (by decide) _ _ _ rfl (HO.out.alloc _) (fun _ => True) _ _ _ _ rfl (fe_ (by rfl) (by simp)) ?c1 ?c2 ?c3 ?c4 ?_
      case c1 => intro u hu; simp at hu; subst hu; rfl
      case c2 => have := HUL.out; unfold maxLen; omega
      case c3 => have := HUL.out; omega
      case c4 => have := HB.out.size; simp; omega
      intro A1 c1 wb hown1 hgrow1 _
      have HF1 := h_ ((bAlloc HB.out _).grown hgrow1 (by have := HB.out.size; simp; omega) (fun g hg => (HO.out.lt g hg).1) : Below w.heap.size w wb)
      have HO1 := h_ (show wb.ownsRow w.heap.size 3 1 (.slice A1 (U ++ [(k : Int)]).length c1) (U ++ [(k : Int)]).length ((U ++ [(k : Int)]).map (Value.int .i64)) by simpa using hown1)
      have HE1 := h_ (show (.slice A1 (U.length + 1) c1 : Value) = .slice A1 (U ++ [(k : Int)]).length c1 by simp)
      clear hown1 hgrow1
      go_wp2_with fail
      go_roundw
      case rel => exact ⟨k + 1, A1, c1, by omega, by omega, by go_num, by rw [HU.out]; exact HE1.out, by rw [HU.out]; exact HO1, HF1⟩
      case measure => simp [intOf]; omega
    · have hp' : (zs.getD k 0 == 0) = false := by simpa using hp
      have HU := h_ (show upK zs 0 (k + 1) = upK zs 0 k by unfold upK; rw [dv_ hp'])
      clear hp
      generalize zs.getD k 0 = p at *
      generalize upK zs 0 k = U at *
      go_wp2_with fail
      go_roundw
      case rel => exact ⟨k + 1, Ao, co, by omega, by omega, by go_num, by rw [HU.out], by rw [HU.out]; exact HO, HB⟩
      case measure => simp [intOf]; omega
  · obtain rfl : k = N := by omega
    generalize upK zs 0 k = U at *
    go_wp2_with fail
    go_ret
    exact ⟨Ao, co, by rw [HPE.out]; rfl, by rw [HPE.out]; exact HO.out, HB.out⟩
theorem wr_ (w : World) (T : Option Addr) (N c : Nat) (zs : List Int) (HZ : Hid (Sl (· < w.heap.size) w 1 T N (zs.map (Value.int .i64)))) (hN : N ≤ 7) (hl : zs.length = N) (m : Nat) (hm : 0 < m) (hmN : m < N) (_hr : (zs.getD 0 0 == (m : Int)) = false) :
 Calls Tryz.prog 57 #[.slice T N c, .int .i64 (m : Int)] w (RetInts w (peers zs (m : Int))) := by
 obtain ⟨k0, hk0, hx0, hx1, hx2⟩ := info_parts infoIntP
 have HH := h_ (show peerHead zs (m : Int) = [zs.getD m 0] by unfold peerHead; rw [if_pos (by omega)]; simp)
 have HPE := h_ (show peers zs (m : Int) = upK zs (m : Int) N by rw [← hl]; rfl)
 have HK1 := h_ (show kidsTo zs (m : Int) 1 = [] from (dv_ _hr).trans (cz_ _ _))
 obtain ⟨b, o, rfl, hbs, hc⟩ := HZ.out.open_ (by omega)
 have HC := h_ (show ∀ k, k < N → w.cell? ⟨b, o + k, none⟩ = some (.int .i64 (zs.getD k 0)) from fun k hk => hc k _ (ca_ zs k (by omega)))
 clear hc hl _hr
 have hcm := HC.out m hmN
 go_enter Tryz.func57, Tryz.ntmps57
 go_wp2_with (refine bg_ rfl ?_)
 refine ⟨?_⟩
 refine j_ _ rfl _ _ 22 rfl w.heap.size 3 k0 (.int .i64 0) 1 8 Tryz.underlying22 hk0 hx0 hx1 hx2 rfl (by decide) _ _ _ rfl ((World.ownsRow_nil _ _ _ _).alloc _) (fun _ => True) _ _ _ _ rfl (fe_ (by rfl) (by simp)) ?c1 ?c2 ?c3 ?c4 ?_
 case c1 => intro u hu; simp at hu; subst hu; rfl
 case c2 => skip; unfold maxLen; omega
 case c3 => skip; omega
 case c4 => simp
 intro A0 c0 wb hown0 hgrow0 _
 change (w.alloc (Obj.cells #[Value.int IntKind.i64 _] 3)).grownBy wb (Value.slice none 0 0).ownBlock at hgrow0
 have HF0 := h_ (bA_.grown hgrow0 (by simp) (fun g hg => by simp [Value.ownBlock] at hg) : Below w.heap.size w wb)
 have HO0 := h_ (show wb.ownsRow w.heap.size 3 1 (.slice A0 (upK zs (m : Int) 1).length c0) (upK zs (m : Int) 1).length ((upK zs (m : Int) 1).map (Value.int .i64)) by
  have e : upK zs (m : Int) 1 = [zs.getD m 0] := by unfold upK; rw [HH.out, HK1.out]; rfl
  rw [e]
  simpa using hown0)
 have HE0 := h_ (show (.slice A0 (0 + 1) c0 : Value) = .slice A0 (upK zs (m : Int) 1).length c0 by
  have e : upK zs (m : Int) 1 = [zs.getD m 0] := by unfold upK; rw [HH.out, HK1.out]; rfl
  rw [e]
  rfl)
 clear hown0 hgrow0
 go_wp2_with fail
 go_loopw [5, 6] (fun out i wr => ∃ (k : Nat) (Ao : Option Addr) (co : Nat), 1 ≤ k ∧ k ≤ N ∧ i = .int .i64 k ∧ out = .slice Ao (upK zs (m : Int) k).length co ∧ Hid (wr.ownsRow w.heap.size 3 1 (.slice Ao (upK zs (m : Int) k).length co) (upK zs (m : Int) k).length ((upK zs (m : Int) k).map (Value.int .i64))) ∧ Hid (Below w.heap.size w wr)) (fun _ i _ => N - (intOf i).toNat)
 case atStart => exact ⟨1, A0, c0, by omega, by omega, rfl, HE0.out, HO0, HF0⟩
 case round =>
  obtain ⟨k, Ao, co, hk1, hk, rfl, rfl, HO, HB⟩ := hrel
  by_cases hlt : k < N
  · have hcx := (HB.out.cell (p := ⟨b, o + k, none⟩) hbs).trans (HC.out k hlt)
    by_cases hp : (zs.getD k 0 == (m : Int)) = true
    · have HU := h_ (show upK zs (m : Int) (k + 1) = upK zs (m : Int) k ++ [(k : Int)] by unfold upK; rw [fa_ hp, List.append_assoc])
      have HUL := h_ (gs_ zs (m : Int) k)
      generalize zs.getD k 0 = p at *
      generalize upK zs (m : Int) k = U at *
      go_wp2_with (refine bg_ rfl ?_)
      refine ⟨?_⟩
      refine j_ _ rfl _ _ 22 rfl w.heap.size 3 k0 (.int .i64 0) 1 8 Tryz.underlying22 hk0 hx0 hx1 hx2 rfl (by decide) _ _ _ rfl (HO.out.alloc _) (fun _ => True) _ _ _ _ rfl (fe_ (by rfl) (by simp)) ?c1 ?c2 ?c3 ?c4 ?_
      case c1 => intro u hu; simp at hu; subst hu; rfl
      case c2 => have := HUL.out; unfold maxLen; omega
      case c3 => have := HUL.out; omega
      case c4 => have := HB.out.size; simp; omega
      intro A1 c1 wb hown1 hgrow1 _
      have HF1 := h_ ((bAlloc HB.out _).grown hgrow1 (by have := HB.out.size; simp; omega) (fun g hg => (HO.out.lt g hg).1) : Below w.heap.size w wb)
      have HO1 := h_ (show wb.ownsRow w.heap.size 3 1 (.slice A1 (U ++ [(k : Int)]).length c1) (U ++ [(k : Int)]).length ((U ++ [(k : Int)]).map (Value.int .i64)) by simpa using hown1)
      have HE1 := h_ (show (.slice A1 (U.length + 1) c1 : Value) = .slice A1 (U ++ [(k : Int)]).length c1 by simp)
      clear hown1 hgrow1
      go_wp2_with fail
      go_roundw
      case rel => exact ⟨k + 1, A1, c1, by omega, by omega, by go_num, by rw [HU.out]; exact HE1.out, by rw [HU.out]; exact HO1, HF1⟩
      case measure => simp [intOf]; omega
    · have hp' : (zs.getD k 0 == (m : Int)) = false := by simpa using hp
      have HU := h_ (show upK zs (m : Int) (k + 1) = upK zs (m : Int) k by unfold upK; rw [dv_ hp'])
      clear hp
      generalize zs.getD k 0 = p at *
      generalize upK zs (m : Int) k = U at *
      go_wp2_with fail
      go_roundw
      case rel => exact ⟨k + 1, Ao, co, by omega, by omega, by go_num, by rw [HU.out], by rw [HU.out]; exact HO, HB⟩
      case measure => simp [intOf]; omega
  · obtain rfl : k = N := by omega
    generalize upK zs (m : Int) k = U at *
    go_wp2_with fail
    go_ret
    exact ⟨Ao, co, by rw [HPE.out]; rfl, by rw [HPE.out]; exact HO.out, HB.out⟩
theorem ws_ (w : World) (T : Option Addr) (N c : Nat) (zs : List Int) (HZ : Hid (Sl (· < w.heap.size) w 1 T N (zs.map (Value.int .i64)))) (hN : N ≤ 7) (hl : zs.length = N) (h0 : 0 < N) (_hr : (zs.getD 0 0 == 0) = false) :
 Calls Tryz.prog 57 #[.slice T N c, .int .i64 0] w (RetInts w (peers zs 0)) := by
 obtain ⟨k0, hk0, hx0, hx1, hx2⟩ := info_parts infoIntP
 have HH := h_ (show peerHead zs 0 = [] from rfl)
 have HPE := h_ (show peers zs 0 = upK zs 0 N by rw [← hl]; rfl)
 have HK1 := h_ (show kidsTo zs 0 1 = [] from (dv_ _hr).trans (cz_ _ _))
 obtain ⟨b, o, rfl, hbs, hc⟩ := HZ.out.open_ (by omega)
 have HC := h_ (show ∀ k, k < N → w.cell? ⟨b, o + k, none⟩ = some (.int .i64 (zs.getD k 0)) from fun k hk => hc k _ (ca_ zs k (by omega)))
 clear hc hl _hr
 go_enter Tryz.func57, Tryz.ntmps57
 go_wp2_with fail
 go_loopw [5, 6] (fun out i wr => ∃ (k : Nat) (Ao : Option Addr) (co : Nat), 1 ≤ k ∧ k ≤ N ∧ i = .int .i64 k ∧ out = .slice Ao (upK zs 0 k).length co ∧ Hid (wr.ownsRow w.heap.size 3 1 (.slice Ao (upK zs 0 k).length co) (upK zs 0 k).length ((upK zs 0 k).map (Value.int .i64))) ∧ Hid (Below w.heap.size w wr)) (fun _ i _ => N - (intOf i).toNat)
 case atStart => exact ⟨1, none, 0, by omega, by omega, rfl, by rw [show upK zs 0 1 = [] by unfold upK; rw [HH.out, HK1.out]; rfl]; rfl, by rw [show upK zs 0 1 = [] by unfold upK; rw [HH.out, HK1.out]; rfl]; exact World.ownsRow_nil _ _ _ _, Below.refl _ _⟩
 case round =>
  obtain ⟨k, Ao, co, hk1, hk, rfl, rfl, HO, HB⟩ := hrel
  by_cases hlt : k < N
  · have hcx := (HB.out.cell (p := ⟨b, o + k, none⟩) hbs).trans (HC.out k hlt)
    by_cases hp : (zs.getD k 0 == 0) = true
    · have HU := h_ (show upK zs 0 (k + 1) = upK zs 0 k ++ [(k : Int)] by unfold upK; rw [fa_ hp, List.append_assoc])
      have HUL := h_ (gs_ zs 0 k)
      generalize zs.getD k 0 = p at *
      generalize upK zs 0 k = U at *
      go_wp2_with (refine bg_ rfl ?_)
      refine ⟨?_⟩
      refine j_ _ rfl _ _ 22 rfl w.heap.size 3 k0 (.int .i64 0) 1 8 Tryz.underlying22 hk0 hx0 hx1 hx2 rfl (by decide) _ _ _ rfl (HO.out.alloc _) (fun _ => True) _ _ _ _ rfl (fe_ (by rfl) (by simp)) ?c1 ?c2 ?c3 ?c4 ?_
      case c1 => intro u hu; simp at hu; subst hu; rfl
      case c2 => have := HUL.out; unfold maxLen; omega
      case c3 => have := HUL.out; omega
      case c4 => have := HB.out.size; simp; omega
      intro A1 c1 wb hown1 hgrow1 _
      have HF1 := h_ ((bAlloc HB.out _).grown hgrow1 (by have := HB.out.size; simp; omega) (fun g hg => (HO.out.lt g hg).1) : Below w.heap.size w wb)
      have HO1 := h_ (show wb.ownsRow w.heap.size 3 1 (.slice A1 (U ++ [(k : Int)]).length c1) (U ++ [(k : Int)]).length ((U ++ [(k : Int)]).map (Value.int .i64)) by simpa using hown1)
      have HE1 := h_ (show (.slice A1 (U.length + 1) c1 : Value) = .slice A1 (U ++ [(k : Int)]).length c1 by simp)
      clear hown1 hgrow1
      go_wp2_with fail
      go_roundw
      case rel => exact ⟨k + 1, A1, c1, by omega, by omega, by go_num, by rw [HU.out]; exact HE1.out, by rw [HU.out]; exact HO1, HF1⟩
      case measure => simp [intOf]; omega
    · have hp' : (zs.getD k 0 == 0) = false := by simpa using hp
      have HU := h_ (show upK zs 0 (k + 1) = upK zs 0 k by unfold upK; rw [dv_ hp'])
      clear hp
      generalize zs.getD k 0 = p at *
      generalize upK zs 0 k = U at *
      go_wp2_with fail
      go_roundw
      case rel => exact ⟨k + 1, Ao, co, by omega, by omega, by go_num, by rw [HU.out], by rw [HU.out]; exact HO, HB⟩
      case measure => simp [intOf]; omega
  · obtain rfl : k = N := by omega
    generalize upK zs 0 k = U at *
    go_wp2_with fail
    go_ret
    exact ⟨Ao, co, by rw [HPE.out]; rfl, by rw [HPE.out]; exact HO.out, HB.out⟩
theorem qq_ (w : World) (T : Option Addr) (N c : Nat) (zs : List Int) (hs : Sl (· < w.heap.size) w 1 T N (zs.map (Value.int .i64))) (ht : treeFault zs = 0) (me : Int) (h0 : 0 ≤ me) (h1 : me < zs.length) :
 Calls Tryz.prog 85 #[.slice T N c, .int .i64 me] w (RetInts w (peers zs me)) := by
 have hl : zs.length = N := by have := hs.1; simpa using this
 obtain ⟨t1, t2, _⟩ := gc_ ht
 obtain ⟨m, rfl⟩ : ∃ m : Nat, me = m := ⟨me.toNat, by omega⟩
 by_cases hm : 0 < m
 · exact zg_ w T N c zs hs (by omega) hl m hm (by omega)
 · obtain rfl : m = 0 := by omega
   exact zh_ w T N c zs hs (by omega) hl (by omega)
theorem wq_ (w : World) (T : Option Addr) (N c : Nat) (zs : List Int) (hs : Sl (· < w.heap.size) w 1 T N (zs.map (Value.int .i64))) (ht : treeFault zs = 0) (me : Int) (h0 : 0 ≤ me) (h1 : me < zs.length) :
 Calls Tryz.prog 57 #[.slice T N c, .int .i64 me] w (RetInts w (peers zs me)) := by
 have hl : zs.length = N := by have := hs.1; simpa using this
 obtain ⟨t1, t2, t3⟩ := gc_ ht
 obtain ⟨m, rfl⟩ : ∃ m : Nat, me = m := ⟨me.toNat, by omega⟩
 have hr : (zs.getD 0 0 == (m : Int)) = false := by rw [t3]; simp
 by_cases hm : 0 < m
 · exact wr_ w T N c zs hs (by omega) hl m hm (by omega) hr
 · obtain rfl : m = 0 := by omega
   exact ws_ w T N c zs hs (by omega) hl (by omega) hr
end Go.Proofs.YtacacoklddogmaaGreatDoor
namespace Go.Proofs.YtacacoklddogmaaGreatDoor
set_option maxHeartbeats 4000000
open Go.RowKit Go.Shelf
attribute [local go_sem] Oper.semAt_some
set_option maxRecDepth 100000
def upto {α : Type} (f : Nat → α) (k : Nat) : List α := (List.range k).map f
theorem ob_ {α : Type} (f : Nat → α) (k : Nat) : upto f (k + 1) = upto f k ++ [f k] := by simp [upto, List.range_succ]
theorem sj_ {α : Type} (f : Nat → α) (k : Nat) : (upto f k).length = k := by simp [upto]
def KpB (Bs n₀ : Nat) (A B : World) : Prop := Below n₀ A B ∧ B.heap[Bs]? = A.heap[Bs]?
theorem KpB.refl (Bs n₀ : Nat) (A : World) : KpB Bs n₀ A A := ⟨Below.refl _ _, rfl⟩
theorem KpB.trans {Bs n₀ : Nat} {A B C : World} (h : KpB Bs n₀ A B) (k : KpB Bs n₀ B C) : KpB Bs n₀ A C := ⟨h.1.trans k.1, k.2.trans h.2⟩
theorem KpB.put {Bs n₀ : Nat} {w : World} (hn : n₀ ≤ w.heap.size) (hB : Bs < w.heap.size) (W : World) (l : Nat) (o o' : Obj) (hl : w.heap.size ≤ l) (h : W.heap[l]? = some o) (h1 : o.isCells = false) (h2 : o.isWalk = false) : KpB Bs n₀ W (W.putObj l o') :=
 ⟨belowK_b hn W l o o' hl h h1 h2, World.putObj_heap_other (by omega)⟩
theorem xl_ {α : Type} (enc : α → Value) (key : α → Nat) (f : Nat → α) (F : Fence) (n : Nat) (hF : F.fn 135) (hro : F.round = none) (hn : 1 ≤ n) (l Bs n₀ b off len cap : Nat) (hreach : len ≤ 1048576) (hb : b < n₀) (J Jx : List α → World → Prop)
 (hY : ∀ pre x W, J pre W → pre.length < len → YieldAt F (n - 1) Tryz.prog l #[.int .i64 (key x : Int), enc x] W fun e W' =>
   (e = .returned (.bool true) ∧ J (pre ++ [x]) W' ∧ KpB Bs n₀ W W') ∨ (e = .returned (.bool false) ∧ Jx (pre ++ [x]) W'))
 (hkey : ∀ j, j < len → key (f j) = len - 1 - j)
 (W : World) (hBs : W.cell? ⟨Bs, 0, none⟩ = some (.slice (some ⟨b, off, none⟩) len cap)) (hc : ∀ j, j < len → W.cell? ⟨b, off + (len - 1 - j), none⟩ = some (enc (f j))) (h0 : J [] W) :
 CallsIn F n Tryz.prog 135 #[.func (.yield l) #[] #[], .pointer (some ⟨Bs, 0, none⟩)] W fun e W' => (∃ v, e = .returned v) ∧
  ((∃ ys, ys = upto f len ∧ J ys W') ∨ (∃ pre, (∃ k, k ≤ len ∧ pre = upto f k) ∧ Jx pre W')) := by
 refine callsIn_of_wp Tryz.func135 rfl hF ?_ hro
 simp only [Tryz.ntmps135, List.size_toArray, List.length_cons, List.length_nil, Nat.reduceAdd, Nat.reduceSub, Array.replicate_succ, Array.replicate_zero, List.push_toArray, List.append_toArray, List.nil_append, List.cons_append]
 gi_wp2
 gi_loopw [3] (fun i wr => ∃ k : Nat, k ≤ len ∧ i = .int .i64 ((len : Int) - 1 - k) ∧ J (upto f k) wr ∧ KpB Bs n₀ W wr)
  (fun i _ => (intOf i + 1).toNat)
 case atStart => exact ⟨0, Nat.zero_le _, by simp, h0, KpB.refl _ _ _⟩
 case round =>
  obtain ⟨k, hk, rfl, hJs, hnx⟩ := hrel
  have hBx := (World.cell?_of_block (w := W) (a := ⟨Bs, 0, none⟩) hnx.2).trans hBs
  by_cases hlt : k < len
  · obtain ⟨m, hm⟩ : ∃ m : Nat, (len : Int) - 1 - k = m := ⟨len - 1 - k, by omega⟩
    have hcx := (hnx.1.cell (p := ⟨b, off + (len - 1 - k), none⟩) hb).trans (hc k hlt)
    have hkx := hkey k hlt
    obtain ⟨fn, tmps, assign, body, hy, hR⟩ := hY _ (f k) wr hJs (by rw [sj_]; exact hlt)
    rw [hkx, show len - 1 - k = m by omega] at hy
    rw [show len - 1 - k = m by omega] at hcx
    rw [hm]
    have hml : m < len := by omega
    gi_wp2
    refine hR.mono ?_
    rintro e W3 (⟨rfl, hJ3, hk3⟩ | ⟨rfl, hJx3⟩)
    · gi_wp2
      go_roundw
      case rel => exact ⟨k + 1, by omega, by go_num, by rw [ob_]; exact hJ3, hnx.trans hk3⟩
      case measure => simp [intOf]
    · gi_wp2
      refine bodyPost_ret (results_none rfl _ _ _) rfl ?_
      exact ⟨⟨_, rfl⟩, .inr ⟨_, ⟨k + 1, by omega, (ob_ _ _).symm⟩, hJx3⟩⟩
  · obtain rfl : k = len := by omega
    rw [show ((k : Int) - 1 - k) = -1 by omega]
    gi_wp2
    go_end0
    exact ⟨⟨_, rfl⟩, .inl ⟨_, rfl, hJs⟩⟩
theorem un_ {α : Type} (F : Fence) (n : Nat) (hF : F.fn 135) (hro : F.round = none) (l Bs cap : Nat) (A : Option Addr) (J : List α → World → Prop) (W : World) (hBs : W.cell? ⟨Bs, 0, none⟩ = some (.slice A 0 cap)) (h0 : J [] W) :
 CallsIn F n Tryz.prog 135 #[.func (.yield l) #[] #[], .pointer (some ⟨Bs, 0, none⟩)] W fun e W' => (∃ v, e = .returned v) ∧ J [] W' := by
 refine callsIn_of_wp Tryz.func135 rfl hF ?_ hro
 simp only [Tryz.ntmps135, List.size_toArray, List.length_cons, List.length_nil, Nat.reduceAdd, Nat.reduceSub, Array.replicate_succ, Array.replicate_zero, List.push_toArray, List.append_toArray, List.nil_append, List.cons_append]
 gi_wp2
 gi_loopw [3] (fun i wr => i = .int .i64 (-1) ∧ J [] wr) (fun _ _ => 0)
 case atStart => exact ⟨by simp, h0⟩
 case round =>
  obtain ⟨rfl, hJs⟩ := hrel
  gi_wp2
  go_end0
  exact ⟨⟨_, rfl⟩, hJs⟩
theorem yv_ (F : Fence) (n : Nat) (h : F.fn 121) (hro : F.round = none) (a : Option Addr) (len cap : Nat) (w : World) :
 CallsIn F n Tryz.prog 121 #[.slice a len cap] w fun e w' => e = .returned (.func (.func 135) #[] #[.pointer (some ⟨w.heap.size, 0, none⟩)]) ∧ w' = w.alloc (.cells #[.slice a len cap] 25) := by
 refine callsIn_of_wp Tryz.func121 rfl h ?_ hro
 simp only [Tryz.ntmps121, List.size_toArray, List.length_cons, List.length_nil, Nat.reduceAdd, Nat.reduceSub, Array.replicate_succ, Array.replicate_zero, List.push_toArray, List.append_toArray, List.nil_append, List.cons_append]
 gi_wp2
 go_ret
 exact ⟨rfl, rfl⟩
abbrev BackI (L : List OpV) : Type := Nat × { o : OpV // o ∈ L }
abbrev backOps {L : List OpV} (ys : List (BackI L)) : List OpV := ys.map fun x => x.2.1
def backF (L : List OpV) (h : 0 < L.length) (j : Nat) : BackI L := (L.length - 1 - j, ⟨L[L.length - 1 - j]'(by omega), List.getElem_mem _⟩)
theorem na_ (L : List OpV) (h : 0 < L.length) (k : Nat) (hk : k ≤ L.length) : backOps (upto (backF L h) k) = L.reverse.take k := by
 apply List.ext_getElem
 · simp [upto]
   omega
 · intro i h1 h2
   simp [upto, backF]
theorem tn_ (F : Fence) (n : Nat) (hF : F.fn 135) (hro : F.round = none) (hn : 1 ≤ n) (Bs n₀ : Nat) (A : Option Addr) (cap : Nat) (L : List OpV) (hl : L.length ≤ 1048576) (w : World) (hBs : Bs < w.heap.size) (hn₀ : n₀ ≤ w.heap.size)
 (hc : w.cell? ⟨Bs, 0, none⟩ = some (.slice A L.length cap)) (hI : Sl (· < n₀) w 1 A L.length (L.map OpV.val)) :
 SeqStopsK F n Tryz.prog 135 #[.pointer (some ⟨Bs, 0, none⟩)] (fun x : BackI L => #[Value.int .i64 (x.1 : Int), x.2.1.val]) (KpB Bs n₀) (fun ys => backOps ys = L.reverse)
  (fun pre => backOps pre <+: L.reverse) L.length w := fun l J Jx W hW _ _ hY h0 => by
 have hc' := (hW.cell (p := ⟨Bs, 0, none⟩) hBs).trans hc
 by_cases hL : 0 < L.length
 · obtain ⟨b, off, rfl, hb, hcs⟩ := (hI.below (hW.mono hn₀) (Nat.le_refl _)).open_ hL
   refine (xl_ (fun x : BackI L => x.2.1.val) (fun x => x.1) (backF L hL) F n hF hro hn l Bs n₀ b off L.length cap hl hb J Jx hY (fun j _ => rfl) W hc' (fun j hj => ?_) h0).mono ?_
   · exact hcs _ _ (by rw [List.getElem?_map, List.getElem?_eq_getElem (by omega)]; rfl)
   · rintro e W' ⟨he, ⟨ys, rfl, hj⟩ | ⟨pre, ⟨k, hk, rfl⟩, hj⟩⟩
     · exact ⟨he, .inl ⟨_, by show backOps _ = _; rw [na_ L hL _ (Nat.le_refl _), ← List.length_reverse, List.take_length], hj⟩⟩
     · exact ⟨he, .inr ⟨_, by show backOps _ <+: _; rw [na_ L hL _ hk]; exact List.take_prefix _ _, hj⟩⟩
 · obtain rfl : L = [] := List.eq_nil_of_length_eq_zero (by omega)
   exact (un_ F n hF hro l Bs cap A J W hc' h0).mono fun e W' ⟨he, hj⟩ => ⟨he, .inl ⟨[], rfl, hj⟩⟩
end Go.Proofs.YtacacoklddogmaaGreatDoor
namespace Go.Proofs.YtacacoklddogmaaGreatDoor
set_option maxHeartbeats 4000000
open Go.ChangeShapes Go.WideShapes Go.ChangeAt Go.RowKit Go.Shelf
attribute [local go_sem] Oper.semAt_some
set_option maxRecDepth 100000
def atOf (r : Int) : List (List PartD) → Int
 | [] => r
 | o :: os => atOf (lens o).2 os
theorem fv_ (r : Int) (a : List (List PartD)) (x : List PartD) : atOf r (a ++ [x]) = (lens x).2 := by
 induction a generalizing r with
 | nil => rfl
 | cons o os ih => exact ih _
theorem er_ (r : Int) (a : List (List PartD)) (x : List PartD) : undoOk r (a ++ [x]) ↔ undoOk r a ∧ opFault x = 0 ∧ (lens x).1 = atOf r a := by
 induction a generalizing r with
 | nil => exact ⟨fun h => ⟨trivial, h.1⟩, fun h => ⟨h.2, trivial⟩⟩
 | cons o os ih =>
  show ((opFault o = 0 ∧ (lens o).1 = r) ∧ undoOk (lens o).2 (os ++ [x])) ↔ ((opFault o = 0 ∧ (lens o).1 = r) ∧ undoOk (lens o).2 os) ∧ opFault x = 0 ∧ (lens x).1 = atOf (lens o).2 os
  rw [ih, and_assoc, and_assoc, and_assoc]
theorem cv_ {r : Int} {a b : List (List PartD)} (h : undoOk r (a ++ b)) : undoOk r a := by
 induction a generalizing r with
 | nil => trivial
 | cons o os ih => exact ⟨h.1, ih h.2⟩
theorem ek_ {W W' : World} (h : Below W.heap.size W W') : KeepsOthers W W' := ⟨h.size, fun k _ hk _ => (h.block k (Array.getElem?_eq_some_iff.1 hk).1).trans hk⟩
def backPs {L : List OpV} (pre : List (BackI L)) : List (List PartD) := (backOps pre).map OpV.ps
theorem rs_ {L : List OpV} (pre : List (BackI L)) (x : BackI L) : backPs (pre ++ [x]) = backPs pre ++ [x.2.1.ps] := by simp [backPs]
theorem oh_ {W : World} {B : Nat} {v : Value} {t : TypeId} (h : W.heap[B]? = some (.cells #[v] t (0, 0))) : W.cell? ⟨B, 0, none⟩ = some v ∧ W.frozen? ⟨B, 0, none⟩ = false := by
 constructor <;> simp [World.cell?, World.frozen?, h]
theorem lh_ (W : World) (v : Value) (t : TypeId) : (W.alloc (.cells #[v] t)).cell? ⟨W.heap.size, 0, none⟩ = some v ∧ (W.alloc (.cells #[v] t)).frozen? ⟨W.heap.size, 0, none⟩ = false :=
 oh_ (World.alloc_heap_new W _)
theorem pz_ {W : World} {a : Addr} {v : Value} (o : Obj) (h : W.cell? a = some v) : (W.alloc o).cell? a = some v := cell_kept h (World.grownBy_alloc W o none) (fun r e => by cases e)
theorem mo_ {W : World} {a : Addr} {v : Value} (o : Obj) (h : W.cell? a = some v) (hf : W.frozen? a = false) : (W.alloc o).frozen? a = false := (frozen_kept h (World.grownBy_alloc W o none) (fun r e => by cases e)).trans hf
structure UndoI (n0 AT : Nat) (uA : Option Addr) (uc : Nat) (U : List OpV) (r : Int) (pre : List (BackI U)) (W : World) : Prop where
 ok : undoOk r (backPs pre)
 at_ : W.cell? ⟨AT, 0, none⟩ = some (.int .i64 (atOf r (backPs pre)))
 atf : W.frozen? ⟨AT, 0, none⟩ = false
 rb : W.cell? ⟨n0 + 1, 0, none⟩ = some (.bool false)
 rbf : W.frozen? ⟨n0 + 1, 0, none⟩ = false
 nd : W.cell? ⟨n0, 6, none⟩ = some (.slice uA U.length uc)
theorem UndoI.own (n0 AT : Nat) (uA : Option Addr) (uc : Nat) (U : List OpV) (r : Int) : Own (UndoI n0 AT uA uc U r) := fun _ _ _ _ hs hg hr =>
 ⟨hs.ok, cell_kept hs.at_ hg hr, (frozen_kept hs.at_ hg hr).trans hs.atf, cell_kept hs.rb hg hr, (frozen_kept hs.rb hg hr).trans hs.rbf, cell_kept hs.nd hg hr⟩
theorem UndoI.far {n0 AT : Nat} {uA : Option Addr} {uc : Nat} {U : List OpV} {r : Int} {pre : List (BackI U)} {W W' : World} (h : UndoI n0 AT uA uc U r pre W) (hb : Below W.heap.size W W') : UndoI n0 AT uA uc U r pre W' :=
 ⟨h.ok, (hb.cell (block_lt_of_cell h.at_)).trans h.at_, (hb.frozen (block_lt_of_cell h.at_)).trans h.atf, (hb.cell (block_lt_of_cell h.rb)).trans h.rb, (hb.frozen (block_lt_of_cell h.rb)).trans h.rbf, (hb.cell (block_lt_of_cell h.nd)).trans h.nd⟩
theorem baf_ (w : World) (n : NodeV) (hT : Tabs w) (hi : OpsIn w n.uA n.U) (hl : n.U.length ≤ 1048576) (hm : ∀ o ∈ n.U, o.Small) (ht : n.t.size ≤ 1048576) :
 Calls Tryz.prog 86 #[n.val] w fun e w' => (∃ b : Bool, e = .returned (.bool b) ∧ (b = true ↔ undoOk (runesI n.t) (n.U.map OpV.ps).reverse ∧ n.U.length ≤ 12)) ∧ Below w.heap.size w w' := by
 obtain ⟨me, ep, up, rd, t, sA, sc, S, uA, uc, U, mA, mc, M⟩ := n
 dsimp only at *
 have HT := h_ hT
 have HI := h_ hi
 have HM := h_ hm
 clear hT hi hm
 refine (callsIn_wide (n := 9)).1 ?_
 refine callsIn_of_wp_marks Tryz.func86 rfl trivial ?_ rfl
 simp only [Tryz.ntmps86, List.size_toArray, List.length_cons, List.length_nil, Nat.reduceAdd, Nat.reduceSub, Array.replicate_succ, Array.replicate_zero, List.push_toArray, List.append_toArray, List.nil_append, List.cons_append]
 gi_wp2
 all_goals (
  obtain ⟨WA, hWA⟩ : ∃ WA, WA = (w.alloc (.cells #[.int .i64 me, .int .i64 ep, .int .i64 up, .bool rd, .string t, .slice sA S.length sc, .slice uA U.length uc, .slice mA M.length mc] 28)).alloc (.cells #[.bool false] 4) := ⟨_, rfl⟩
  rw [← hWA]
  have hN : WA.heap[w.heap.size]? = some (.cells #[.int .i64 me, .int .i64 ep, .int .i64 up, .bool rd, .string t, .slice sA S.length sc, .slice uA U.length uc, .slice mA M.length mc] 28 (0, 0)) := by rw [hWA]; exact (q_ _ _ _ (by simp)).trans (by show (w.heap.push _)[w.heap.size]? = _; simp)
  have hR : WA.heap[w.heap.size + 1]? = some (.cells #[.bool false] 4 (0, 0)) := by rw [hWA]; have := World.alloc_heap_new (w.alloc (.cells #[.int .i64 me, .int .i64 ep, .int .i64 up, .bool rd, .string t, .slice sA S.length sc, .slice uA U.length uc, .slice mA M.length mc] 28)) (.cells #[.bool false] 4); rwa [World.size_alloc] at this
  have hBA : Below w.heap.size w WA := by rw [hWA]; exact bAlloc bA_ _
  have hzA : WA.heap.size = w.heap.size + 2 := by rw [hWA]; simp
  clear hWA
  refine ⟨trivial, callsIn_wide.2 ((cg_ t _ ht).mono ?_)⟩
  rintro e w1 ⟨rfl, hb1⟩
  have HN1 := h_ ((hb1.block _ (by omega)).trans hN)
  have HR1 := h_ ((hb1.block _ (by omega)).trans hR)
  have HB1 := h_ (bThen hBA hb1)
  have hz1 := hb1.size
  have n6 : w1.cell? ⟨w.heap.size, 6, none⟩ = some (.slice uA U.length uc) := by unfold World.cell?; rw [HN1.out]; rfl
  have hlt : w.heap.size < w1.heap.size := by omega
  clear hN hR hBA hb1
  gi_wp2
  refine ⟨trivial, (yv_ Fence.wide 8 trivial rfl _ _ _ _).mono ?_⟩
  rintro e w2 ⟨rfl, rfl⟩
  gi_wp2
  obtain ⟨AT, hAT⟩ : ∃ AT, AT = w1.heap.size := ⟨_, rfl⟩
  obtain ⟨WL, hWL⟩ : ∃ WL, WL = (w1.alloc (.cells #[.int .i64 (Lib.runeCount t : Int)] 3)).alloc (.cells #[.slice uA U.length uc] 25) := ⟨_, rfl⟩
  have hzL : WL.heap.size = AT + 2 := by rw [hWL, hAT]; simp
  have hkL : Below w1.heap.size w1 WL := by rw [hWL]; exact bAlloc bA_ _
  have hBL := bThen HB1.out hkL
  have hs := lh_ w1 (.int .i64 (Lib.runeCount t : Int)) 3
  have hb := lh_ (w1.alloc (.cells #[.int .i64 (Lib.runeCount t : Int)] 3)) (.slice uA U.length uc) 25
  rw [World.size_alloc, ← hWL, ← hAT] at hb
  have hA1 : WL.cell? ⟨AT, 0, none⟩ = some (.int .i64 (Lib.runeCount t : Int)) := by rw [hWL, hAT]; exact pz_ _ hs.1
  have hA2 : WL.frozen? ⟨AT, 0, none⟩ = false := by rw [hWL, hAT]; exact mo_ _ hs.1 hs.2
  have hR1 : WL.cell? ⟨w.heap.size + 1, 0, none⟩ = some (.bool false) := by unfold World.cell?; rw [hkL.block (w.heap.size + 1) (by omega), HR1.out]; rfl
  have hR2 : WL.frozen? ⟨w.heap.size + 1, 0, none⟩ = false := by unfold World.frozen?; rw [hkL.block (w.heap.size + 1) (by omega), HR1.out]; rfl
  have hN6 : WL.cell? ⟨w.heap.size, 6, none⟩ = some (.slice uA U.length uc) := by unfold World.cell?; rw [hkL.block w.heap.size (by omega), HN1.out]; rfl
  have HIL := h_ (HI.out.later hBL)
  rw [← hWL, ← hAT]
  have hATw : w.heap.size + 1 < AT := by omega
  clear hs hWL hAT hkL hz1 hzA n6 hlt HN1 HR1 HB1
  refine wpIn_rangeFunc_ownF (n := 9) rfl (by decide) (gf := 135) (lb := #[.pointer (some ⟨AT + 1, 0, none⟩)]) rfl trivial (enters_of Tryz.func135 (by kernel_rfl) rfl)
   (tn_ Fence.wide 8 trivial rfl (by decide) (AT + 1) w.heap.size uA uc U hl WL (by omega) (by omega) hb.1 (HI.out.row.below hBL (Nat.le_refl _))) (fun h k => KpB.trans h k) (fun W l o o' h1 h2 h3 h4 => KpB.put (w := WL) (by omega) (by omega) W l o o' h1 h2 h3 h4) (Below.refl _ _) (fun _ => rfl)
   (fun pre W => UndoI w.heap.size AT uA uc U (runesI t) pre W ∧ (Below w.heap.size w W ∧ AT + 2 ≤ W.heap.size))
   (fun c pre W => (c = .ret ∧ ¬ undoOk (runesI t) (backPs pre) ∧ W.cell? ⟨w.heap.size + 1, 0, none⟩ = some (.bool false)) ∧ Below w.heap.size w W)
   (OwnFrom.and (Own.from (UndoI.own _ _ _ _ _ _) _) (OwnFrom.and (ownFrom_below (Nat.le_refl _) (by omega)) (fun _ _ _ _ h hg _ => Nat.le_trans h hg.size)))
   (fun c => OwnFrom.and (Own.from (fun s A B row hs hg hr => ⟨hs.1, hs.2.1, cell_kept hs.2.2 hg hr⟩) _) (ownFrom_below (Nat.le_refl _) (by omega)))
   ⟨⟨trivial, hA1, hA2, hR1, hR2, hN6⟩, hBL, by omega⟩
   (fun x => { tmps := #[(NodeV.val ⟨me, ep, up, rd, t, sA, sc, S, uA, uc, U, mA, mc, M⟩), .pointer (some ⟨w.heap.size, 0, none⟩), .pointer (some ⟨w.heap.size + 1, 0, none⟩), .pointer (some ⟨AT, 0, none⟩), undef, x.2.1.val, undef, undef, .pointer (some ⟨w.heap.size, 4, none⟩), .string t, .int .i64 (Lib.runeCount t : Int), .pointer (some ⟨w.heap.size, 6, none⟩), .slice uA U.length uc, .func (.func 135) #[] #[.pointer (some ⟨AT + 1, 0, none⟩)], .int .i64 (x.1 : Int), x.2.1.val, undef, undef, undef, undef, undef, undef, undef, undef, undef, undef, undef, undef, undef, undef, undef, undef, undef, undef], defers := [] }) ?assign ?body ?done ?stop
  case assign =>
   intro l x W K hK
   gi_wp2
   exact hK
  case body =>
   rintro l pre ⟨k, ⟨⟨qA, qc, qp⟩, hq⟩⟩ W ⟨hI, hB, hsz⟩ _
   have HQ := h_ (rs_ pre (⟨k, ⟨⟨qA, qc, qp⟩, hq⟩⟩ : BackI U))
   have hqs := HM.out _ hq
   have HLN := h_ (fun X hs => bt_ X qA qc qp hs hqs.len hqs.text)
   have HCK := h_ (fun X hT hs => bj_ X qA qc qp hT hs hqs.len hqs.text)
   have HOP := h_ ((HI.out.later hB).each _ hq)
   obtain ⟨i1, i2, i3, i4, i5, i6⟩ := hI
   have HB := h_ hB
   have HSN := h_ (er_ (runesI t) (backPs pre) qp)
   have HAS := h_ (fv_ (runesI t) (backPs pre) qp)
   generalize hag : atOf (runesI t) (backPs pre) = ag at *
   generalize lens qp = ln at *
   obtain ⟨l1, l2⟩ := ln
   have HAG := h_ hag
   clear hag
   dsimp only at *
   gi_wp2
   refine ⟨trivial, CallsIn.inRound l (callsIn_wide.2 ((HLN.out W HOP.out).mono ?_))⟩
   rintro e W1 ⟨rfl, hb1⟩
   have HOP1 := h_ (Sl.later HOP.out hb1)
   have HB1 := h_ (bThen HB.out hb1)
   gi_wp2
   refine ⟨trivial, CallsIn.inRound l (callsIn_wide.2 ((HCK.out W1 (HT.out.later HB1.out) HOP1.out).mono ?_))⟩
   rintro e W2 ⟨rfl, hb2⟩
   have HB2 := h_ (bThen hb1 hb2)
   have HBW := h_ (bThen HB.out HB2.out)
   have j2 := (HB2.out.cell (p := ⟨AT, 0, none⟩) (block_lt_of_cell i2)).trans i2
   have j3 := (HB2.out.frozen (p := ⟨AT, 0, none⟩) (block_lt_of_cell i2)).trans i3
   have j4 := (HB2.out.cell (p := ⟨w.heap.size + 1, 0, none⟩) (block_lt_of_cell i4)).trans i4
   have j5 := (HB2.out.frozen (p := ⟨w.heap.size + 1, 0, none⟩) (block_lt_of_cell i4)).trans i5
   have HJ6 := h_ ((HB2.out.cell (p := ⟨w.heap.size, 6, none⟩) (block_lt_of_cell i6)).trans i6)
   have HZ2 := h_ HB2.out.size
   clear hb1 hb2 i2 i3 i4 i5 i6
   by_cases hf : opFault qp = 0
   · rw [hf]
     by_cases ha : l1 = ag
     · have HNW := h_ (show undoOk (runesI t) (backPs (pre ++ [(⟨k, ⟨⟨qA, qc, qp⟩, hq⟩⟩ : BackI U)])) by rw [HQ.out]; exact HSN.out.2 ⟨i1, hf, ha⟩)
       have ha2 : (l1 != ag) = false := by simpa using ha
       clear ha hf
       gi_wp2
       have hne1 : w.heap.size + 1 ≠ AT := by omega
       have hne0 : w.heap.size ≠ AT := by omega
       exact ⟨(ek_ HB2.out).trans (KeepsOthers.setCell _ _ _),
        ⟨(HB2.out.mono HB.out.size).setCell (p := ⟨AT, 0, none⟩) (by show w.heap.size ≤ AT; omega) _, (Below.heap_setCell W2 ⟨AT, 0, none⟩ _ (AT + 1) (by show AT + 1 ≠ AT; omega)).trans (HB2.out.block _ (by omega))⟩,
        ⟨HNW.out, by rw [HQ.out, HAS.out]; exact World.cell?_setCell_same' _ _ _ (by rw [j2]; rfl), by rw [World.frozen?_setCell]; exact j3, (World.cell?_of_block (a := ⟨w.heap.size + 1, 0, none⟩) (Below.heap_setCell W2 ⟨AT, 0, none⟩ _ _ hne1)).trans j4, by rw [World.frozen?_setCell]; exact j5, (World.cell?_of_block (a := ⟨w.heap.size, 6, none⟩) (Below.heap_setCell W2 ⟨AT, 0, none⟩ _ _ hne0)).trans HJ6.out⟩,
        HBW.out.setCell (p := ⟨AT, 0, none⟩) (by show w.heap.size ≤ AT; omega) _, by have := HZ2.out; simp [World.setCell]; omega⟩
     · have HNW := h_ (show ¬ undoOk (runesI t) (backPs (pre ++ [(⟨k, ⟨⟨qA, qc, qp⟩, hq⟩⟩ : BackI U)])) by rw [HQ.out]; exact fun h => ha (HSN.out.1 h).2.2)
       have ha2 : (l1 != ag) = true := by simpa using ha
       clear ha hf
       gi_wp2
       exact ⟨(ek_ HB2.out).trans (KeepsOthers.setCell _ _ _), ⟨rfl, HNW.out, World.cell?_setCell_same' _ _ _ (by rw [j4]; rfl)⟩, HBW.out.setCell (p := ⟨w.heap.size + 1, 0, none⟩) (by simp) _⟩
   · have HNW := h_ (show ¬ undoOk (runesI t) (backPs (pre ++ [(⟨k, ⟨⟨qA, qc, qp⟩, hq⟩⟩ : BackI U)])) by rw [HQ.out]; exact fun h => hf (HSN.out.1 h).2.1)
     have hf2 : (opFault qp != 0) = true := by simpa using hf
     generalize opFault qp = er at *
     clear hf
     gi_wp2
     exact ⟨(ek_ HB2.out).trans (KeepsOthers.setCell _ _ _), ⟨rfl, HNW.out, World.cell?_setCell_same' _ _ _ (by rw [j4]; rfl)⟩, HBW.out.setCell (p := ⟨w.heap.size + 1, 0, none⟩) (by simp) _⟩
  case done =>
   rintro D ys W hD hys ⟨hI, hB, hsz⟩ hK
   obtain ⟨i1, i2, i3, i4, i5, i6⟩ := hI
   gi_wp2
   have hK' := (KeepsOthers.setCell W ⟨w.heap.size + 1, 0, none⟩ (.bool (decide ((U.length : Int) ≤ 12)))).same D _ hK rfl
   refine ⟨by simp, .inl ⟨_, _, rfl, run_takeDeferred hK', ?_⟩⟩
   have hc5 := cell_kept (World.cell?_setCell_same' W ⟨w.heap.size + 1, 0, none⟩ (.bool (decide ((U.length : Int) ≤ 12))) (by rw [i4]; rfl)) (grownBy_putObj' _ D (.deferred none)) (fun r e => by cases e; exact ⟨_, hK', rfl⟩)
   refine ⟨.bool (decide ((U.length : Int) ≤ 12)), ?_, ⟨⟨_, rfl, ?_⟩, (hB.setCell (p := ⟨w.heap.size + 1, 0, none⟩) (by simp) _).trans (belowK_b (w := w) (Nat.le_refl _) _ D _ _ (by omega) hK' rfl rfl)⟩⟩
   · simp [results, Tryz.results86, go_sem, hc5]
   · have e : backPs ys = (U.map OpV.ps).reverse := by unfold backPs; rw [hys, List.map_reverse]
     rw [e] at i1
     simp only [decide_eq_true_eq]
     exact ⟨fun h => ⟨i1, by omega⟩, fun h => by omega⟩
  case stop =>
   rintro D c pre W hD hpre ⟨⟨rfl, hno, hcr⟩, hB⟩ hK
   gi_wp2
   refine ⟨by simp, .inl ⟨_, _, rfl, run_takeDeferred hK, ?_⟩⟩
   have hc5 := cell_kept hcr (grownBy_putObj' _ D (.deferred none)) (fun r e => by cases e; exact ⟨_, hK, rfl⟩)
   refine ⟨.bool false, ?_, ⟨⟨_, rfl, ?_⟩, hB.trans (belowK_b (w := w) (Nat.le_refl _) W D _ _ (by omega) hK rfl rfl)⟩⟩
   · simp [results, Tryz.results86, go_sem, hc5]
   · refine ⟨fun h => (by cases h), fun h => ?_⟩
     obtain ⟨b, hb⟩ := hpre
     exact absurd (cv_ (b := b.map OpV.ps) (by unfold backPs; rw [← List.map_append, hb, List.map_reverse]; exact h.1)) hno)
end Go.Proofs.YtacacoklddogmaaGreatDoor
