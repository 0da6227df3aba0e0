/- A part of the proof of NodeUndoes. -/
import Derived.Test.YtacacoklddogmaaGreatDoorKBJ
import Derived.Test.YtacacoklddogmaaGreatDoorKBI
import Derived.BigQuiet
import Derived.Lib.QuietBelow
namespace Go.Proofs.YtacacoklddogmaaGreatDoor
set_option maxHeartbeats 4000000
open Go.ChangeShapes Go.WideShapes Go.ChangeAt Go.RowKit
set_option maxRecDepth 100000
theorem gq_ (s : ByteArray) (w : World) (hs : s.size ≤ 1048576) :
 Calls Tryz.prog 58 #[.string s] w (R_ w (.int .i64 (Lib.runeCount s))) := by
 have hcv := fun wx => convRunes (w := wx) hs
 go_enter Tryz.func58, Tryz.ntmps58
 go_wp2_with fail
 go_ret
 exact ⟨rfl, bz_⟩
theorem ww_ (w : World) (n : NodeV) (x : SideV) (HT : Hid (Tabs w)) (HX : Hid (x.In w)) (HE : Hid (∀ W, Tabs W → OpsIn W x.A x.L → Calls Tryz.prog 104 #[edgeV x.s x.h x.A x.L.length x.c] W (R_ W (.bool false)))) :
 Calls Tryz.prog 61 #[n.val, x.val] w fun r w' => (∃ b : Bool, r = .returned (.bool b) ∧ (b = true ↔ False)) ∧ Below w.heap.size w w' := by
 have HA := h_ (TwoAt.new w n x)
 obtain ⟨WA, hWA⟩ : ∃ WA, WA = (w.alloc (.cells #[.int .i64 n.me, .int .i64 n.ep, .int .i64 n.up, .bool n.rd, .string n.t, .slice n.sA n.S.length n.sc, .slice n.uA n.U.length n.uc, .slice n.mA n.M.length n.mc] 28)).alloc (.cells #[.int .i64 x.p, .bool x.j, .int .i64 x.s, .int .i64 x.h, .slice x.A x.L.length x.c, .int .i64 x.k.e, .int .i64 x.k.n, .slice x.k.sA x.k.s.length x.k.sc, .slice x.k.qA x.k.q.length x.k.qc, .int .i64 x.k.h] 60) := ⟨_, rfl⟩
 rw [← hWA] at HA
 have HW := h_ hWA.symm
 clear hWA
 obtain ⟨me, ep, up, rd, t, sA, sc, S, uA, uc, U, mA, mc, M⟩ := n
 obtain ⟨p, j, s, h, A, c, L, k⟩ := x
 dsimp only at *
 go_enter Tryz.func61, Tryz.ntmps61
 go_wp2_with fail
 rw [HW.out]
 refine (HE.out _ (HT.out.later HA.out.b) (HX.out.ops.later HA.out.b)).mono ?_
 rintro e w1 ⟨rfl, hb1⟩
 have H1 := h_ (HA.out.later hb1)
 obtain ⟨_, x1, x2, x3, x4, x5, x6, x7, x8, x9, xz⟩ := v_ H1.out.sd
 (try dsimp only at x1 x2 x3 x4 x5 x6 x7 x8 x9)
 clear hb1
 go_wp2_with fail
 go_ret
 exact ⟨⟨_, rfl, by simp⟩, H1.out.b⟩
theorem wx_ (w : World) (n : NodeV) (x : SideV) (HT : Hid (Tabs w)) (HX : Hid (x.In w)) (HE : Hid (∀ W, Tabs W → OpsIn W x.A x.L → Calls Tryz.prog 104 #[edgeV x.s x.h x.A x.L.length x.c] W (R_ W (.bool true)))) (HL : Hid (∀ W, Tabs W → x.k.In W → Calls Tryz.prog 105 #[x.k.val] W (R_ W (.bool false)))) :
 Calls Tryz.prog 61 #[n.val, x.val] w fun r w' => (∃ b : Bool, r = .returned (.bool b) ∧ (b = true ↔ False)) ∧ Below w.heap.size w w' := by
 have HA := h_ (TwoAt.new w n x)
 obtain ⟨WA, hWA⟩ : ∃ WA, WA = (w.alloc (.cells #[.int .i64 n.me, .int .i64 n.ep, .int .i64 n.up, .bool n.rd, .string n.t, .slice n.sA n.S.length n.sc, .slice n.uA n.U.length n.uc, .slice n.mA n.M.length n.mc] 28)).alloc (.cells #[.int .i64 x.p, .bool x.j, .int .i64 x.s, .int .i64 x.h, .slice x.A x.L.length x.c, .int .i64 x.k.e, .int .i64 x.k.n, .slice x.k.sA x.k.s.length x.k.sc, .slice x.k.qA x.k.q.length x.k.qc, .int .i64 x.k.h] 60) := ⟨_, rfl⟩
 rw [← hWA] at HA
 have HW := h_ hWA.symm
 clear hWA
 obtain ⟨me, ep, up, rd, t, sA, sc, S, uA, uc, U, mA, mc, M⟩ := n
 obtain ⟨p, j, s, h, A, c, L, k⟩ := x
 dsimp only at *
 go_enter Tryz.func61, Tryz.ntmps61
 go_wp2_with fail
 rw [HW.out]
 refine (HE.out _ (HT.out.later HA.out.b) (HX.out.ops.later HA.out.b)).mono ?_
 rintro e w1 ⟨rfl, hb1⟩
 have H1 := h_ (HA.out.later hb1)
 obtain ⟨_, x1, x2, x3, x4, x5, x6, x7, x8, x9, xz⟩ := v_ H1.out.sd
 (try dsimp only at x1 x2 x3 x4 x5 x6 x7 x8 x9)
 clear hb1
 go_wp2_with fail
 refine (HL.out _ (HT.out.later H1.out.b) (HX.out.link.later H1.out.b)).mono ?_
 rintro e w2 ⟨rfl, hb2⟩
 have H2 := h_ (H1.out.later hb2)
 clear x1 x2 x3 x4 x5 x6 x7 x8 x9 xz
 obtain ⟨_, x1, x2, x3, x4, x5, x6, x7, x8, x9, xz⟩ := v_ H2.out.sd
 obtain ⟨_, _, _, n3, n4, _, _, _, nz⟩ := d_ H2.out.nd
 (try dsimp only at x1 x2 x3 x4 x5 x6 x7 x8 x9 n3 n4)
 clear hb2
 go_wp2_with fail
 go_ret
 exact ⟨⟨_, rfl, by simp⟩, H2.out.b⟩
theorem wy_ (w : World) (n : NodeV) (x : SideV) (HT : Hid (Tabs w)) (HX : Hid (x.In w)) (hj : x.j = false) (HE : Hid (∀ W, Tabs W → OpsIn W x.A x.L → Calls Tryz.prog 104 #[edgeV x.s x.h x.A x.L.length x.c] W (R_ W (.bool true)))) (HL : Hid (∀ W, Tabs W → x.k.In W → Calls Tryz.prog 105 #[x.k.val] W (R_ W (.bool true)))) :
 Calls Tryz.prog 61 #[n.val, x.val] w fun r w' => (∃ b : Bool, r = .returned (.bool b) ∧ (b = true ↔ x.s = 0 ∧ x.h = 0)) ∧ Below w.heap.size w w' := by
 have HA := h_ (TwoAt.new w n x)
 obtain ⟨WA, hWA⟩ : ∃ WA, WA = (w.alloc (.cells #[.int .i64 n.me, .int .i64 n.ep, .int .i64 n.up, .bool n.rd, .string n.t, .slice n.sA n.S.length n.sc, .slice n.uA n.U.length n.uc, .slice n.mA n.M.length n.mc] 28)).alloc (.cells #[.int .i64 x.p, .bool x.j, .int .i64 x.s, .int .i64 x.h, .slice x.A x.L.length x.c, .int .i64 x.k.e, .int .i64 x.k.n, .slice x.k.sA x.k.s.length x.k.sc, .slice x.k.qA x.k.q.length x.k.qc, .int .i64 x.k.h] 60) := ⟨_, rfl⟩
 rw [← hWA] at HA
 have HW := h_ hWA.symm
 clear hWA
 obtain ⟨me, ep, up, rd, t, sA, sc, S, uA, uc, U, mA, mc, M⟩ := n
 obtain ⟨p, j, s, h, A, c, L, k⟩ := x
 dsimp only at *
 subst hj
 go_enter Tryz.func61, Tryz.ntmps61
 go_wp2_with fail
 rw [HW.out]
 refine (HE.out _ (HT.out.later HA.out.b) (HX.out.ops.later HA.out.b)).mono ?_
 rintro e w1 ⟨rfl, hb1⟩
 have H1 := h_ (HA.out.later hb1)
 obtain ⟨_, x1, x2, x3, x4, x5, x6, x7, x8, x9, xz⟩ := v_ H1.out.sd
 (try dsimp only at x1 x2 x3 x4 x5 x6 x7 x8 x9)
 clear hb1
 go_wp2_with fail
 refine (HL.out _ (HT.out.later H1.out.b) (HX.out.link.later H1.out.b)).mono ?_
 rintro e w2 ⟨rfl, hb2⟩
 have H2 := h_ (H1.out.later hb2)
 clear x1 x2 x3 x4 x5 x6 x7 x8 x9 xz
 obtain ⟨_, x1, x2, x3, x4, x5, x6, x7, x8, x9, xz⟩ := v_ H2.out.sd
 obtain ⟨_, _, _, n3, n4, _, _, _, nz⟩ := d_ H2.out.nd
 (try dsimp only at x1 x2 x3 x4 x5 x6 x7 x8 x9 n3 n4)
 clear hb2
 go_wp2_with fail
 all_goals (
  go_ret
  refine ⟨⟨_, rfl, ?_⟩, H2.out.b⟩
  simp_all)
theorem wz_ (w : World) (n : NodeV) (x : SideV) (HT : Hid (Tabs w)) (HX : Hid (x.In w)) (hj : x.j = true) (_hL : decide (0 < x.L.length) = false) (HE : Hid (∀ W, Tabs W → OpsIn W x.A x.L → Calls Tryz.prog 104 #[edgeV x.s x.h x.A x.L.length x.c] W (R_ W (.bool true)))) (HL : Hid (∀ W, Tabs W → x.k.In W → Calls Tryz.prog 105 #[x.k.val] W (R_ W (.bool true)))) :
 Calls Tryz.prog 61 #[n.val, x.val] w fun r w' => (∃ b : Bool, r = .returned (.bool b) ∧ (b = true ↔ n.rd = true ∧ x.k.e ≠ 0)) ∧ Below w.heap.size w w' := by
 have HA := h_ (TwoAt.new w n x)
 obtain ⟨WA, hWA⟩ : ∃ WA, WA = (w.alloc (.cells #[.int .i64 n.me, .int .i64 n.ep, .int .i64 n.up, .bool n.rd, .string n.t, .slice n.sA n.S.length n.sc, .slice n.uA n.U.length n.uc, .slice n.mA n.M.length n.mc] 28)).alloc (.cells #[.int .i64 x.p, .bool x.j, .int .i64 x.s, .int .i64 x.h, .slice x.A x.L.length x.c, .int .i64 x.k.e, .int .i64 x.k.n, .slice x.k.sA x.k.s.length x.k.sc, .slice x.k.qA x.k.q.length x.k.qc, .int .i64 x.k.h] 60) := ⟨_, rfl⟩
 rw [← hWA] at HA
 have HW := h_ hWA.symm
 clear hWA
 obtain ⟨me, ep, up, rd, t, sA, sc, S, uA, uc, U, mA, mc, M⟩ := n
 obtain ⟨p, j, s, h, A, c, L, k⟩ := x
 dsimp only at *
 subst hj
 cases rd
 all_goals (
  go_enter Tryz.func61, Tryz.ntmps61
  go_wp2_with fail
  rw [HW.out]
  refine (HE.out _ (HT.out.later HA.out.b) (HX.out.ops.later HA.out.b)).mono ?_
  rintro e w1 ⟨rfl, hb1⟩
  have H1 := h_ (HA.out.later hb1)
  obtain ⟨_, x1, x2, x3, x4, x5, x6, x7, x8, x9, xz⟩ := v_ H1.out.sd
  (try dsimp only at x1 x2 x3 x4 x5 x6 x7 x8 x9)
  clear hb1
  go_wp2_with fail
  refine (HL.out _ (HT.out.later H1.out.b) (HX.out.link.later H1.out.b)).mono ?_
  rintro e w2 ⟨rfl, hb2⟩
  have H2 := h_ (H1.out.later hb2)
  clear x1 x2 x3 x4 x5 x6 x7 x8 x9 xz
  obtain ⟨_, x1, x2, x3, x4, x5, x6, x7, x8, x9, xz⟩ := v_ H2.out.sd
  obtain ⟨_, _, _, n3, n4, _, _, _, nz⟩ := d_ H2.out.nd
  (try dsimp only at x1 x2 x3 x4 x5 x6 x7 x8 x9 n3 n4)
  clear hb2
  go_wp2_with fail
  all_goals (
   go_ret
   refine ⟨⟨_, rfl, ?_⟩, H2.out.b⟩
   simp_all
   try omega))
theorem xa_ (w : World) (n : NodeV) (x : SideV) (HT : Hid (Tabs w)) (HX : Hid (x.In w)) (hj : x.j = true) (q : OpV) (HQ : Hid (x.L.getLast? = some q)) (hp : 0 < x.L.length) (hml : x.L.length ≤ 1048576) (ht : ((lens q.ps).2 != (Lib.runeCount n.t : Int)) = true) (HE : Hid (∀ W, Tabs W → OpsIn W x.A x.L → Calls Tryz.prog 104 #[edgeV x.s x.h x.A x.L.length x.c] W (R_ W (.bool true)))) (HL : Hid (∀ W, Tabs W → x.k.In W → Calls Tryz.prog 105 #[x.k.val] W (R_ W (.bool true)))) (HLN : Hid (∀ W, OpIn (· < W.heap.size) W q.A q.ps → Calls Tryz.prog 59 #[.slice q.A q.ps.length q.c] W (R_ W (.tuple #[.int .i64 (lens q.ps).1, .int .i64 (lens q.ps).2])))) (HRC : Hid (∀ W, Calls Tryz.prog 58 #[.string n.t] W (R_ W (.int .i64 (Lib.runeCount n.t))))) :
 Calls Tryz.prog 61 #[n.val, x.val] w fun r w' => (∃ b : Bool, r = .returned (.bool b) ∧ (b = true ↔ False)) ∧ Below w.heap.size w w' := by
 have hw : wrap64 ((x.L.length : Int) - 1) = ((x.L.length - 1 : Nat) : Int) := gd_ hp hml
 have HLS := h_ (fun (W : World) (hs : OpsIn W x.A x.L) => da_ hs HQ.out)
 generalize hr : (Lib.runeCount n.t : Int) = rc at *
 generalize lens q.ps = ln at *
 obtain ⟨l1, l2⟩ := ln
 clear hr
 have HA := h_ (TwoAt.new w n x)
 obtain ⟨WA, hWA⟩ : ∃ WA, WA = (w.alloc (.cells #[.int .i64 n.me, .int .i64 n.ep, .int .i64 n.up, .bool n.rd, .string n.t, .slice n.sA n.S.length n.sc, .slice n.uA n.U.length n.uc, .slice n.mA n.M.length n.mc] 28)).alloc (.cells #[.int .i64 x.p, .bool x.j, .int .i64 x.s, .int .i64 x.h, .slice x.A x.L.length x.c, .int .i64 x.k.e, .int .i64 x.k.n, .slice x.k.sA x.k.s.length x.k.sc, .slice x.k.qA x.k.q.length x.k.qc, .int .i64 x.k.h] 60) := ⟨_, rfl⟩
 rw [← hWA] at HA
 have HW := h_ hWA.symm
 clear hWA
 obtain ⟨me, ep, up, rd, t, sA, sc, S, uA, uc, U, mA, mc, M⟩ := n
 obtain ⟨p, j, s, h, A, c, L, k⟩ := x
 dsimp only at *
 subst hj
 go_enter Tryz.func61, Tryz.ntmps61
 go_wp2_with fail
 rw [HW.out]
 refine (HE.out _ (HT.out.later HA.out.b) (HX.out.ops.later HA.out.b)).mono ?_
 rintro e w1 ⟨rfl, hb1⟩
 have H1 := h_ (HA.out.later hb1)
 obtain ⟨_, x1, x2, x3, x4, x5, x6, x7, x8, x9, xz⟩ := v_ H1.out.sd
 (try dsimp only at x1 x2 x3 x4 x5 x6 x7 x8 x9)
 clear hb1
 go_wp2_with fail
 refine (HL.out _ (HT.out.later H1.out.b) (HX.out.link.later H1.out.b)).mono ?_
 rintro e w2 ⟨rfl, hb2⟩
 have H2 := h_ (H1.out.later hb2)
 clear x1 x2 x3 x4 x5 x6 x7 x8 x9 xz
 obtain ⟨_, x1, x2, x3, x4, x5, x6, x7, x8, x9, xz⟩ := v_ H2.out.sd
 obtain ⟨_, _, _, n3, n4, _, _, _, nz⟩ := d_ H2.out.nd
 (try dsimp only at x1 x2 x3 x4 x5 x6 x7 x8 x9 n3 n4)
 clear hb2
 have HO := h_ (HX.out.ops.later H2.out.b)
 obtain ⟨b, o, hAe, hbs, c0, hop⟩ := HLS.out _ HO.out
 subst hAe
 have HOP := h_ hop
 clear hop
 go_wp2_with fail
 refine (HLN.out _ HOP.out).mono ?_
 rintro e w3 ⟨rfl, hb3⟩
 have H3 := h_ (H2.out.later hb3)
 clear x1 x2 x3 x4 x5 x6 x7 x8 x9 xz n3 n4 nz
 obtain ⟨_, x1, x2, x3, x4, x5, x6, x7, x8, x9, xz⟩ := v_ H3.out.sd
 obtain ⟨_, _, _, n3, n4, _, _, _, nz⟩ := d_ H3.out.nd
 (try dsimp only at x1 x2 x3 x4 x5 x6 x7 x8 x9 n3 n4)
 clear hb3
 go_wp2_with fail
 refine (HRC.out _).mono ?_
 rintro e w4 ⟨rfl, hb4⟩
 have H4 := h_ (H3.out.later hb4)
 clear x1 x2 x3 x4 x5 x6 x7 x8 x9 xz n3 n4 nz
 obtain ⟨_, x1, x2, x3, x4, x5, x6, x7, x8, x9, xz⟩ := v_ H4.out.sd
 obtain ⟨_, _, _, n3, n4, _, _, _, nz⟩ := d_ H4.out.nd
 (try dsimp only at x1 x2 x3 x4 x5 x6 x7 x8 x9 n3 n4)
 clear hb4
 go_wp2_with fail
 go_ret
 exact ⟨⟨_, rfl, by simp⟩, H4.out.b⟩
theorem xb_ (w : World) (n : NodeV) (x : SideV) (HT : Hid (Tabs w)) (HX : Hid (x.In w)) (hj : x.j = true) (q : OpV) (HQ : Hid (x.L.getLast? = some q)) (hp : 0 < x.L.length) (hml : x.L.length ≤ 1048576) (ht : ((lens q.ps).2 != (Lib.runeCount n.t : Int)) = false) (HE : Hid (∀ W, Tabs W → OpsIn W x.A x.L → Calls Tryz.prog 104 #[edgeV x.s x.h x.A x.L.length x.c] W (R_ W (.bool true)))) (HL : Hid (∀ W, Tabs W → x.k.In W → Calls Tryz.prog 105 #[x.k.val] W (R_ W (.bool true)))) (HLN : Hid (∀ W, OpIn (· < W.heap.size) W q.A q.ps → Calls Tryz.prog 59 #[.slice q.A q.ps.length q.c] W (R_ W (.tuple #[.int .i64 (lens q.ps).1, .int .i64 (lens q.ps).2])))) (HRC : Hid (∀ W, Calls Tryz.prog 58 #[.string n.t] W (R_ W (.int .i64 (Lib.runeCount n.t))))) :
 Calls Tryz.prog 61 #[n.val, x.val] w fun r w' => (∃ b : Bool, r = .returned (.bool b) ∧ (b = true ↔ n.rd = true ∧ x.k.e ≠ 0)) ∧ Below w.heap.size w w' := by
 have hw : wrap64 ((x.L.length : Int) - 1) = ((x.L.length - 1 : Nat) : Int) := gd_ hp hml
 have HLS := h_ (fun (W : World) (hs : OpsIn W x.A x.L) => da_ hs HQ.out)
 generalize hr : (Lib.runeCount n.t : Int) = rc at *
 generalize lens q.ps = ln at *
 obtain ⟨l1, l2⟩ := ln
 clear hr
 have HA := h_ (TwoAt.new w n x)
 obtain ⟨WA, hWA⟩ : ∃ WA, WA = (w.alloc (.cells #[.int .i64 n.me, .int .i64 n.ep, .int .i64 n.up, .bool n.rd, .string n.t, .slice n.sA n.S.length n.sc, .slice n.uA n.U.length n.uc, .slice n.mA n.M.length n.mc] 28)).alloc (.cells #[.int .i64 x.p, .bool x.j, .int .i64 x.s, .int .i64 x.h, .slice x.A x.L.length x.c, .int .i64 x.k.e, .int .i64 x.k.n, .slice x.k.sA x.k.s.length x.k.sc, .slice x.k.qA x.k.q.length x.k.qc, .int .i64 x.k.h] 60) := ⟨_, rfl⟩
 rw [← hWA] at HA
 have HW := h_ hWA.symm
 clear hWA
 obtain ⟨me, ep, up, rd, t, sA, sc, S, uA, uc, U, mA, mc, M⟩ := n
 obtain ⟨p, j, s, h, A, c, L, k⟩ := x
 dsimp only at *
 subst hj
 go_enter Tryz.func61, Tryz.ntmps61
 go_wp2_with fail
 rw [HW.out]
 refine (HE.out _ (HT.out.later HA.out.b) (HX.out.ops.later HA.out.b)).mono ?_
 rintro e w1 ⟨rfl, hb1⟩
 have H1 := h_ (HA.out.later hb1)
 obtain ⟨_, x1, x2, x3, x4, x5, x6, x7, x8, x9, xz⟩ := v_ H1.out.sd
 (try dsimp only at x1 x2 x3 x4 x5 x6 x7 x8 x9)
 clear hb1
 go_wp2_with fail
 refine (HL.out _ (HT.out.later H1.out.b) (HX.out.link.later H1.out.b)).mono ?_
 rintro e w2 ⟨rfl, hb2⟩
 have H2 := h_ (H1.out.later hb2)
 clear x1 x2 x3 x4 x5 x6 x7 x8 x9 xz
 obtain ⟨_, x1, x2, x3, x4, x5, x6, x7, x8, x9, xz⟩ := v_ H2.out.sd
 obtain ⟨_, _, _, n3, n4, _, _, _, nz⟩ := d_ H2.out.nd
 (try dsimp only at x1 x2 x3 x4 x5 x6 x7 x8 x9 n3 n4)
 clear hb2
 have HO := h_ (HX.out.ops.later H2.out.b)
 obtain ⟨b, o, hAe, hbs, c0, hop⟩ := HLS.out _ HO.out
 subst hAe
 have HOP := h_ hop
 clear hop
 go_wp2_with fail
 refine (HLN.out _ HOP.out).mono ?_
 rintro e w3 ⟨rfl, hb3⟩
 have H3 := h_ (H2.out.later hb3)
 clear x1 x2 x3 x4 x5 x6 x7 x8 x9 xz n3 n4 nz
 obtain ⟨_, x1, x2, x3, x4, x5, x6, x7, x8, x9, xz⟩ := v_ H3.out.sd
 obtain ⟨_, _, _, n3, n4, _, _, _, nz⟩ := d_ H3.out.nd
 (try dsimp only at x1 x2 x3 x4 x5 x6 x7 x8 x9 n3 n4)
 clear hb3
 go_wp2_with fail
 refine (HRC.out _).mono ?_
 rintro e w4 ⟨rfl, hb4⟩
 have H4 := h_ (H3.out.later hb4)
 clear x1 x2 x3 x4 x5 x6 x7 x8 x9 xz n3 n4 nz
 obtain ⟨_, x1, x2, x3, x4, x5, x6, x7, x8, x9, xz⟩ := v_ H4.out.sd
 obtain ⟨_, _, _, n3, n4, _, _, _, nz⟩ := d_ H4.out.nd
 (try dsimp only at x1 x2 x3 x4 x5 x6 x7 x8 x9 n3 n4)
 clear hb4
 go_wp2_with fail
 all_goals (
  go_ret
  refine ⟨⟨_, rfl, ?_⟩, H4.out.b⟩
  simp_all
  try omega)
theorem xc_ (w : World) (n : NodeV) (x : SideV) (hT : Tabs w) (hx : x.In w) (hm : x.Small) (ht : n.t.size ≤ 1048576) :
 Calls Tryz.prog 61 #[n.val, x.val] w fun r w' => (∃ b : Bool, r = .returned (.bool b) ∧ (b = true ↔ sideMay n.rd (runesI n.t) x)) ∧ Below w.heap.size w w' := by
 have HE := fun W hT hs => hm_ W x.s x.h x.A x.c x.L hT hs hm.ops
 have HL := fun W hT hs => dt_ W x.k hT hs hm.link
 unfold sideMay
 by_cases h1 : edgeMay x.s x.h x.L
 · rw [show edgeB x.s x.h x.L = true from decide_eq_true h1] at HE
   by_cases h2 : linkMay x.k
   · rw [decide_eq_true h2] at HL
     by_cases hj : x.j = false
     · rw [if_pos hj]
       refine (wy_ w n x hT hx hj HE HL).mono fun _ _ ⟨⟨b, e, k⟩, hb⟩ => ⟨⟨b, e, k.trans ⟨fun q => ⟨⟨h1, h2⟩, q⟩, fun q => q.2⟩⟩, hb⟩
     · rw [if_neg hj]
       have hj' : x.j = true := by simpa using hj
       cases hl : x.L.getLast? with
       | none =>
        have hL : x.L = [] := by simpa using hl
        refine (wz_ w n x hT hx hj' (by rw [hL]; rfl) HE HL).mono fun _ _ ⟨⟨b, e, k⟩, hb⟩ => ⟨⟨b, e, k.trans ⟨fun q => ⟨⟨h1, h2⟩, by rw [hL]; exact ht_, q⟩, fun q => q.2.2⟩⟩, hb⟩
       | some q =>
        have hq : q ∈ x.L := List.mem_of_getLast? hl
        have HLN := fun W hs => bi_ W q.A q.c q.ps hs (hm.ops q hq).len (hm.ops q hq).text
        have hf := hi_ (r := runesI n.t) hl
        by_cases hr : (lens q.ps).2 = runesI n.t
        · refine (xb_ w n x hT hx hj' q hl (bp_ hl) hm.len (by unfold runesI at hr; simpa using hr) HE HL HLN (fun W => gq_ n.t W ht)).mono fun _ _ ⟨⟨b, e, k⟩, hb⟩ => ⟨⟨b, e, k.trans ⟨fun q => ⟨⟨h1, h2⟩, hf.2 hr, q⟩, fun q => q.2.2⟩⟩, hb⟩
        · refine (xa_ w n x hT hx hj' q hl (bp_ hl) hm.len (by unfold runesI at hr; simpa using hr) HE HL HLN (fun W => gq_ n.t W ht)).mono fun _ _ ⟨⟨b, e, k⟩, hb⟩ => ⟨⟨b, e, k.trans ⟨fun q => q.elim, fun q => hr (hf.1 q.2.1)⟩⟩, hb⟩
   · rw [decide_eq_false h2] at HL
     exact (wx_ w n x hT hx HE HL).mono fun _ _ ⟨⟨b, e, k⟩, hb⟩ => ⟨⟨b, e, k.trans ⟨fun q => q.elim, fun q => h2 q.1.2⟩⟩, hb⟩
 · rw [show edgeB x.s x.h x.L = false from decide_eq_false h1] at HE
   exact (ww_ w n x hT hx HE).mono fun _ _ ⟨⟨b, e, k⟩, hb⟩ => ⟨⟨b, e, k.trans ⟨fun q => q.elim, fun q => h1 q.1.1⟩⟩, hb⟩
theorem qx_ {P : Program} {f : FuncId} {args : Array Value} {w : World} {d : Nat} {os : Array Obj} {v : Value} (h : Calls P f args (Go.Sort.grow (redrawn w d) os) fun e w' => e = .returned v ∧ Go.Sort.grow (redrawn w d) os = w') : Calls P f args (Go.Sort.grow (redrawn w d) os) fun e w'' => e = .returned v ∧ ∃ p : Regrown, w'' = Go.Sort.grow (redrawn w p.d) p.os :=
 h.mono fun _ _ ⟨he, hw⟩ => ⟨he, ⟨d, os⟩, hw.symm⟩
abbrev markV (m : Int × Int) : Value := .agg #[.int .i64 m.1, .int .i64 m.2]
theorem wd_ (w : World) (s : ByteArray) (a h : Int) (hs : s.size ≤ 1048576) (H : Hid (a < 0 ∨ runesI s < a)) : Calls Tryz.prog 62 #[.string s, markV (a, h)] w (R_ w (.bool false)) := by
 have HR := h_ (fun W => gq_ s W hs)
 unfold runesI at H
 generalize (Lib.runeCount s : Int) = rc at *
 have HR2 : ∀ (W : World) d os, Calls Tryz.prog 58 #[.string s] (Go.Sort.grow (redrawn W d) os) fun e w'' => e = .returned (.int .i64 rc) ∧ ∃ p : Regrown, w'' = Go.Sort.grow (redrawn W p.d) p.os := fun W d os => Calls.regrown_of (HR.out _)
 have HI2 : ∀ (W : World) d os, Calls Tryz.prog 55 #[.int .i64 a, .int .i64 0, .int .i64 rc] (Go.Sort.grow (redrawn W d) os) fun e w'' => e = .returned (.bool false) ∧ ∃ p : Regrown, w'' = Go.Sort.grow (redrawn W p.d) p.os := fun W d os => qx_ (In_no a 0 rc _ H.out)
 have HR3 := h_ HR2
 have HI3 := h_ HI2
 clear HR2 HI2
 obtain ⟨W1, hW1⟩ : ∃ W1, W1 = w.alloc (.cells #[.int .i64 a, .int .i64 h] 53) := ⟨_, rfl⟩
 have k0 := cell_regrown (show W1.cell? ⟨w.heap.size, 0, none⟩ = some (.int .i64 a) by rw [hW1]; simp)
 have HW := h_ hW1.symm
 have HB := h_ (show Below w.heap.size w W1 by rw [hW1]; exact bA_)
 clear hW1
 go_enter Tryz.func62, Tryz.ntmps62
 go_wp2_with (refine r_ ?_)
 refine ⟨?_⟩
 rw [HW.out]
 refine wp_region_quiet_below (by kernel_rfl) (by kernel_rfl) ?_
 repeat (quiet_step (first | (go_at_call 58; exact HR3.out _ _ _) | (go_at_call 55; exact HI3.out _ _ _) | exact HR3.out _ _ _ | exact HI3.out _ _ _))
 refine wpQuiet_nil ?_
 intro _ hw'
 obtain ⟨⟨dq, osq⟩, hw''⟩ := hw'
 subst hw''
 go_wp2_with fail
 go_ret
 exact ⟨rfl, bThen HB.out (below_regrown _ dq osq)⟩
theorem nh_ (w : World) (s : ByteArray) (a h : Int) (hs : s.size ≤ 1048576) (h1 : 0 ≤ a) (H1 : Hid (a ≤ runesI s)) (b : Bool) (HB : Hid ((b = true ∧ 0 ≤ h ∧ h ≤ runesI s) ∨ (b = false ∧ (h < 0 ∨ runesI s < h)))) : Calls Tryz.prog 62 #[.string s, markV (a, h)] w (R_ w (.bool b)) := by
 have HR := h_ (fun W => gq_ s W hs)
 unfold runesI at H1 HB
 generalize (Lib.runeCount s : Int) = rc at *
 go_enter Tryz.func62, Tryz.ntmps62
 have HI : Hid (∀ W, Calls Tryz.prog 55 #[.int .i64 h, .int .i64 0, .int .i64 rc] W fun e w' => e = .returned (.bool b) ∧ W = w') := h_ fun W => by
  rcases HB.out with ⟨rfl, q1, q2⟩ | ⟨rfl, q⟩
  · exact c_ h 0 rc W q1 q2
  · exact In_no h 0 rc W q
 go_wp2_with (refine r_ ?_)
 refine ⟨?_⟩
 go_region_law (first
  | (go_simp; go_at_call 58; refine (HR.out _).mono ?_; rintro e w1 ⟨rfl, hb1⟩; obtain ⟨⟨d1, os1⟩, rfl⟩ := a_ hb1)
  | (go_simp; go_at_call 55; (with_reducible refine (c_ a 0 rc _ h1 H1.out).mono ?_); rintro e w2 ⟨rfl, rfl⟩)
  | (go_simp; go_at_call 55; refine (HI.out _).mono ?_; rintro e w2 ⟨rfl, rfl⟩))
 all_goals (
  go_wp2_with fail
  go_ret
  exact ⟨by simp, bz_⟩)
theorem we_ (w : World) (s : ByteArray) (m : Int × Int) (hs : s.size ≤ 1048576) : Calls Tryz.prog 62 #[.string s, markV m] w fun r w' => (∃ b : Bool, r = .returned (.bool b) ∧ (b = true ↔ markOk (runesI s) m)) ∧ Below w.heap.size w w' := by
 obtain ⟨a, h⟩ := m
 unfold markOk
 by_cases h1 : 0 ≤ a ∧ a ≤ runesI s
 · by_cases h2 : 0 ≤ h ∧ h ≤ runesI s
   · exact (nh_ w s a h hs h1.1 h1.2 true (.inl ⟨rfl, h2⟩)).mono fun _ _ k => ⟨⟨true, k.1, by simp [h1, h2]⟩, k.2⟩
   · exact (nh_ w s a h hs h1.1 h1.2 false (.inr ⟨rfl, by omega⟩)).mono fun _ _ k => ⟨⟨false, k.1, by simp; intro _ _ q; omega⟩, k.2⟩
 · exact (wd_ w s a h hs (by show a < 0 ∨ runesI s < a; omega)).mono fun _ _ k => ⟨⟨false, k.1, by simp; intro q; omega⟩, k.2⟩
theorem cd_ {N : Nat} (h0 : 0 < N) (h : N ≤ 7) : wrap64 ((N : Int) - 1) = (N : Int) - 1 := by
 unfold wrap64
 omega
theorem po_ (w : World) (T : Option Addr) (N Nc : Nat) (n : NodeV) (_HT : Hid (Tabs w)) (_HI : Hid (n.In w)) (hN0 : 0 < N) (hN : N ≤ 7) (Hme : Hid (n.me < 0 ∨ (N : Int) - 1 < n.me)) (HC : Hid (∀ W, Below w.heap.size w W → Calls Tryz.prog 54 #[.slice T N Nc] W fun e w' => e = .returned (.int .i64 0) ∧ W = w')) :
 Calls Tryz.prog 22 #[.slice T N Nc, n.val] w (R_ w (.int .i64 9)) := by
 have HA := h_ (OneAt.new w n)
 obtain ⟨WA, hWA⟩ : ∃ WA, WA = w.alloc (.cells #[.int .i64 n.me, .int .i64 n.ep, .int .i64 n.up, .bool n.rd, .string n.t, .slice n.sA n.S.length n.sc, .slice n.uA n.U.length n.uc, .slice n.mA n.M.length n.mc] 28) := ⟨_, rfl⟩
 rw [← hWA] at HA
 have HW := h_ hWA.symm
 clear hWA
 go_enter Tryz.func22, Tryz.ntmps22
 go_wp2_with fail
 rw [HW.out]
 refine (HC.out _ HA.out.b).mono ?_
 rintro e w1 ⟨rfl, rfl⟩
 obtain ⟨n0, n1, n2, n3, n4, n5, n6, n7, nz⟩ := d_ HA.out.nd
 have hw1 : wrap64 ((N : Int) - 1) = (N : Int) - 1 := cd_ hN0 hN
 go_wp2_with fail
 refine (In_no n.me 0 ((N : Int) - 1) _ Hme.out).mono ?_
 rintro e wi ⟨rfl, rfl⟩
 go_wp2_with fail
 go_ret
 exact ⟨rfl, HA.out.b⟩
theorem pn_ (w : World) (T : Option Addr) (N Nc : Nat) (n : NodeV) (_HT : Hid (Tabs w)) (_HI : Hid (n.In w)) (hN0 : 0 < N) (hN : N ≤ 7) (Hme : Hid (0 ≤ n.me ∧ n.me ≤ (N : Int) - 1)) (Hep : Hid (n.ep < 1 ∨ 1048575 < n.ep)) (HC : Hid (∀ W, Below w.heap.size w W → Calls Tryz.prog 54 #[.slice T N Nc] W fun e w' => e = .returned (.int .i64 0) ∧ W = w')) :
 Calls Tryz.prog 22 #[.slice T N Nc, n.val] w (R_ w (.int .i64 9)) := by
 have HA := h_ (OneAt.new w n)
 obtain ⟨WA, hWA⟩ : ∃ WA, WA = w.alloc (.cells #[.int .i64 n.me, .int .i64 n.ep, .int .i64 n.up, .bool n.rd, .string n.t, .slice n.sA n.S.length n.sc, .slice n.uA n.U.length n.uc, .slice n.mA n.M.length n.mc] 28) := ⟨_, rfl⟩
 rw [← hWA] at HA
 have HW := h_ hWA.symm
 clear hWA
 go_enter Tryz.func22, Tryz.ntmps22
 go_wp2_with fail
 rw [HW.out]
 refine (HC.out _ HA.out.b).mono ?_
 rintro e w1 ⟨rfl, rfl⟩
 obtain ⟨n0, n1, n2, n3, n4, n5, n6, n7, nz⟩ := d_ HA.out.nd
 have hw1 : wrap64 ((N : Int) - 1) = (N : Int) - 1 := cd_ hN0 hN
 go_wp2_with fail
 refine (c_ n.me 0 ((N : Int) - 1) _ Hme.out.1 Hme.out.2).mono ?_
 rintro e wi ⟨rfl, rfl⟩
 go_wp2_with fail
 refine (In_no n.ep 1 1048575 _ Hep.out).mono ?_
 rintro e wi ⟨rfl, rfl⟩
 go_wp2_with fail
 go_ret
 exact ⟨rfl, HA.out.b⟩
theorem pp_ (w : World) (T : Option Addr) (N Nc : Nat) (n : NodeV) (_HT : Hid (Tabs w)) (_HI : Hid (n.In w)) (hN0 : 0 < N) (hN : N ≤ 7) (Hme : Hid (0 ≤ n.me ∧ n.me ≤ (N : Int) - 1)) (Hep : Hid (1 ≤ n.ep ∧ n.ep ≤ 1048575)) (Hup : Hid (n.up < 0 ∨ 1048576 < n.up)) (HC : Hid (∀ W, Below w.heap.size w W → Calls Tryz.prog 54 #[.slice T N Nc] W fun e w' => e = .returned (.int .i64 0) ∧ W = w')) :
 Calls Tryz.prog 22 #[.slice T N Nc, n.val] w (R_ w (.int .i64 9)) := by
 have HA := h_ (OneAt.new w n)
 obtain ⟨WA, hWA⟩ : ∃ WA, WA = w.alloc (.cells #[.int .i64 n.me, .int .i64 n.ep, .int .i64 n.up, .bool n.rd, .string n.t, .slice n.sA n.S.length n.sc, .slice n.uA n.U.length n.uc, .slice n.mA n.M.length n.mc] 28) := ⟨_, rfl⟩
 rw [← hWA] at HA
 have HW := h_ hWA.symm
 clear hWA
 go_enter Tryz.func22, Tryz.ntmps22
 go_wp2_with fail
 rw [HW.out]
 refine (HC.out _ HA.out.b).mono ?_
 rintro e w1 ⟨rfl, rfl⟩
 obtain ⟨n0, n1, n2, n3, n4, n5, n6, n7, nz⟩ := d_ HA.out.nd
 have hw1 : wrap64 ((N : Int) - 1) = (N : Int) - 1 := cd_ hN0 hN
 go_wp2_with fail
 refine (c_ n.me 0 ((N : Int) - 1) _ Hme.out.1 Hme.out.2).mono ?_
 rintro e wi ⟨rfl, rfl⟩
 go_wp2_with fail
 refine (c_ n.ep 1 1048575 _ Hep.out.1 Hep.out.2).mono ?_
 rintro e wi ⟨rfl, rfl⟩
 go_wp2_with fail
 refine (In_no n.up 0 1048576 _ Hup.out).mono ?_
 rintro e wi ⟨rfl, rfl⟩
 go_wp2_with fail
 go_ret
 exact ⟨rfl, HA.out.b⟩
theorem pq_ (w : World) (T : Option Addr) (N Nc : Nat) (n : NodeV) (_HT : Hid (Tabs w)) (_HI : Hid (n.In w)) (hN0 : 0 < N) (hN : N ≤ 7) (Hme : Hid (0 ≤ n.me ∧ n.me ≤ (N : Int) - 1)) (Hep : Hid (1 ≤ n.ep ∧ n.ep ≤ 1048575)) (Hup : Hid (0 ≤ n.up ∧ n.up ≤ 1048576)) (_z0 : (n.me == 0) = true) (_u0 : (n.up != 0) = true) (HC : Hid (∀ W, Below w.heap.size w W → Calls Tryz.prog 54 #[.slice T N Nc] W fun e w' => e = .returned (.int .i64 0) ∧ W = w')) :
 Calls Tryz.prog 22 #[.slice T N Nc, n.val] w (R_ w (.int .i64 9)) := by
 have HA := h_ (OneAt.new w n)
 obtain ⟨WA, hWA⟩ : ∃ WA, WA = w.alloc (.cells #[.int .i64 n.me, .int .i64 n.ep, .int .i64 n.up, .bool n.rd, .string n.t, .slice n.sA n.S.length n.sc, .slice n.uA n.U.length n.uc, .slice n.mA n.M.length n.mc] 28) := ⟨_, rfl⟩
 rw [← hWA] at HA
 have HW := h_ hWA.symm
 clear hWA
 go_enter Tryz.func22, Tryz.ntmps22
 go_wp2_with fail
 rw [HW.out]
 refine (HC.out _ HA.out.b).mono ?_
 rintro e w1 ⟨rfl, rfl⟩
 obtain ⟨n0, n1, n2, n3, n4, n5, n6, n7, nz⟩ := d_ HA.out.nd
 have hw1 : wrap64 ((N : Int) - 1) = (N : Int) - 1 := cd_ hN0 hN
 go_wp2_with fail
 refine (c_ n.me 0 ((N : Int) - 1) _ Hme.out.1 Hme.out.2).mono ?_
 rintro e wi ⟨rfl, rfl⟩
 go_wp2_with fail
 refine (c_ n.ep 1 1048575 _ Hep.out.1 Hep.out.2).mono ?_
 rintro e wi ⟨rfl, rfl⟩
 go_wp2_with fail
 refine (c_ n.up 0 1048576 _ Hup.out.1 Hup.out.2).mono ?_
 rintro e wi ⟨rfl, rfl⟩
 go_wp2_with fail
 go_ret
 exact ⟨rfl, HA.out.b⟩
theorem mk_ (w : World) (T : Option Addr) (N Nc : Nat) (n : NodeV) (HT : Hid (Tabs w)) (_HI : Hid (n.In w)) (hN0 : 0 < N) (hN : N ≤ 7) (Hme : Hid (0 ≤ n.me ∧ n.me ≤ (N : Int) - 1)) (Hep : Hid (1 ≤ n.ep ∧ n.ep ≤ 1048575)) (Hup : Hid (0 ≤ n.up ∧ n.up ≤ 1048576)) (_z0 : (n.me == 0) = false) (_zp : decide (0 < n.me) = true) (er : Int) (_he : (er != 0) = true) (HC : Hid (∀ W, Below w.heap.size w W → Calls Tryz.prog 54 #[.slice T N Nc] W fun e w' => e = .returned (.int .i64 0) ∧ W = w')) (HX : Hid (∀ W, Tabs W → Calls Tryz.prog 56 #[.string n.t] W (R_ W (.int .i64 er)))) :
 Calls Tryz.prog 22 #[.slice T N Nc, n.val] w (R_ w (.int .i64 9)) := by
 have HA := h_ (OneAt.new w n)
 obtain ⟨WA, hWA⟩ : ∃ WA, WA = w.alloc (.cells #[.int .i64 n.me, .int .i64 n.ep, .int .i64 n.up, .bool n.rd, .string n.t, .slice n.sA n.S.length n.sc, .slice n.uA n.U.length n.uc, .slice n.mA n.M.length n.mc] 28) := ⟨_, rfl⟩
 rw [← hWA] at HA
 have HW := h_ hWA.symm
 clear hWA
 go_enter Tryz.func22, Tryz.ntmps22
 go_wp2_with fail
 rw [HW.out]
 refine (HC.out _ HA.out.b).mono ?_
 rintro e w1 ⟨rfl, rfl⟩
 obtain ⟨n0, n1, n2, n3, n4, n5, n6, n7, nz⟩ := d_ HA.out.nd
 have hw1 : wrap64 ((N : Int) - 1) = (N : Int) - 1 := cd_ hN0 hN
 go_wp2_with fail
 refine (c_ n.me 0 ((N : Int) - 1) _ Hme.out.1 Hme.out.2).mono ?_
 rintro e wi ⟨rfl, rfl⟩
 go_wp2_with fail
 refine (c_ n.ep 1 1048575 _ Hep.out.1 Hep.out.2).mono ?_
 rintro e wi ⟨rfl, rfl⟩
 go_wp2_with fail
 refine (c_ n.up 0 1048576 _ Hup.out.1 Hup.out.2).mono ?_
 rintro e wi ⟨rfl, rfl⟩
 go_wp2_with fail
 refine (HX.out _ (HT.out.later HA.out.b)).mono ?_
 rintro e w2 ⟨rfl, hb2⟩
 have H2 := h_ (HA.out.later hb2)
 clear n0 n1 n2 n3 n4 n5 n6 n7 nz
 obtain ⟨n0, n1, n2, n3, n4, n5, n6, n7, nz⟩ := d_ H2.out.nd
 clear hb2
 go_wp2_with fail
 go_ret
 exact ⟨rfl, H2.out.b⟩
theorem ml_ (w : World) (T : Option Addr) (N Nc : Nat) (n : NodeV) (HT : Hid (Tabs w)) (_HI : Hid (n.In w)) (hN0 : 0 < N) (hN : N ≤ 7) (Hme : Hid (0 ≤ n.me ∧ n.me ≤ (N : Int) - 1)) (Hep : Hid (1 ≤ n.ep ∧ n.ep ≤ 1048575)) (Hup : Hid (0 ≤ n.up ∧ n.up ≤ 1048576)) (_z0 : (n.me == 0) = true) (_zp : decide (0 < n.me) = false) (_u0 : (n.up != 0) = false) (er : Int) (_he : (er != 0) = true) (HC : Hid (∀ W, Below w.heap.size w W → Calls Tryz.prog 54 #[.slice T N Nc] W fun e w' => e = .returned (.int .i64 0) ∧ W = w')) (HX : Hid (∀ W, Tabs W → Calls Tryz.prog 56 #[.string n.t] W (R_ W (.int .i64 er)))) :
 Calls Tryz.prog 22 #[.slice T N Nc, n.val] w (R_ w (.int .i64 9)) := by
 have HA := h_ (OneAt.new w n)
 obtain ⟨WA, hWA⟩ : ∃ WA, WA = w.alloc (.cells #[.int .i64 n.me, .int .i64 n.ep, .int .i64 n.up, .bool n.rd, .string n.t, .slice n.sA n.S.length n.sc, .slice n.uA n.U.length n.uc, .slice n.mA n.M.length n.mc] 28) := ⟨_, rfl⟩
 rw [← hWA] at HA
 have HW := h_ hWA.symm
 clear hWA
 go_enter Tryz.func22, Tryz.ntmps22
 go_wp2_with fail
 rw [HW.out]
 refine (HC.out _ HA.out.b).mono ?_
 rintro e w1 ⟨rfl, rfl⟩
 obtain ⟨n0, n1, n2, n3, n4, n5, n6, n7, nz⟩ := d_ HA.out.nd
 have hw1 : wrap64 ((N : Int) - 1) = (N : Int) - 1 := cd_ hN0 hN
 go_wp2_with fail
 refine (c_ n.me 0 ((N : Int) - 1) _ Hme.out.1 Hme.out.2).mono ?_
 rintro e wi ⟨rfl, rfl⟩
 go_wp2_with fail
 refine (c_ n.ep 1 1048575 _ Hep.out.1 Hep.out.2).mono ?_
 rintro e wi ⟨rfl, rfl⟩
 go_wp2_with fail
 refine (c_ n.up 0 1048576 _ Hup.out.1 Hup.out.2).mono ?_
 rintro e wi ⟨rfl, rfl⟩
 go_wp2_with fail
 refine (HX.out _ (HT.out.later HA.out.b)).mono ?_
 rintro e w2 ⟨rfl, hb2⟩
 have H2 := h_ (HA.out.later hb2)
 clear n0 n1 n2 n3 n4 n5 n6 n7 nz
 obtain ⟨n0, n1, n2, n3, n4, n5, n6, n7, nz⟩ := d_ H2.out.nd
 clear hb2
 go_wp2_with fail
 go_ret
 exact ⟨rfl, H2.out.b⟩
theorem ki_ (w : World) (T : Option Addr) (N Nc : Nat) (n : NodeV) (HT : Hid (Tabs w)) (_HI : Hid (n.In w)) (hN0 : 0 < N) (hN : N ≤ 7) (pl : List Int) (Hme : Hid (0 ≤ n.me ∧ n.me ≤ (N : Int) - 1)) (Hep : Hid (1 ≤ n.ep ∧ n.ep ≤ 1048575)) (Hup : Hid (0 ≤ n.up ∧ n.up ≤ 1048576)) (_z0 : (n.me == 0) = false) (_zp : decide (0 < n.me) = true) (HX9 : Hid (¬ (pl.length = n.S.length ∧ n.U.length ≤ 12 ∧ n.M.length ≤ 1 ∧ (n.rd = false → n.me ≠ 0 ∧ n.t.toList = [] ∧ n.U.length = 0 ∧ n.M.length = 0)))) (HC : Hid (∀ W, Below w.heap.size w W → Calls Tryz.prog 54 #[.slice T N Nc] W fun e w' => e = .returned (.int .i64 0) ∧ W = w')) (HX : Hid (∀ W, Tabs W → Calls Tryz.prog 56 #[.string n.t] W (R_ W (.int .i64 0)))) (HL : Hid (∀ W, Below w.heap.size w W → Calls Tryz.prog 57 #[.slice T N Nc, .int .i64 n.me] W (RetInts W pl))) :
 Calls Tryz.prog 22 #[.slice T N Nc, n.val] w (R_ w (.int .i64 9)) := by
 have HA := h_ (OneAt.new w n)
 obtain ⟨WA, hWA⟩ : ∃ WA, WA = w.alloc (.cells #[.int .i64 n.me, .int .i64 n.ep, .int .i64 n.up, .bool n.rd, .string n.t, .slice n.sA n.S.length n.sc, .slice n.uA n.U.length n.uc, .slice n.mA n.M.length n.mc] 28) := ⟨_, rfl⟩
 rw [← hWA] at HA
 have HW := h_ hWA.symm
 clear hWA
 go_enter Tryz.func22, Tryz.ntmps22
 go_wp2_with fail
 rw [HW.out]
 refine (HC.out _ HA.out.b).mono ?_
 rintro e w1 ⟨rfl, rfl⟩
 obtain ⟨n0, n1, n2, n3, n4, n5, n6, n7, nz⟩ := d_ HA.out.nd
 have hw1 : wrap64 ((N : Int) - 1) = (N : Int) - 1 := cd_ hN0 hN
 go_wp2_with fail
 refine (c_ n.me 0 ((N : Int) - 1) _ Hme.out.1 Hme.out.2).mono ?_
 rintro e wi ⟨rfl, rfl⟩
 go_wp2_with fail
 refine (c_ n.ep 1 1048575 _ Hep.out.1 Hep.out.2).mono ?_
 rintro e wi ⟨rfl, rfl⟩
 go_wp2_with fail
 refine (c_ n.up 0 1048576 _ Hup.out.1 Hup.out.2).mono ?_
 rintro e wi ⟨rfl, rfl⟩
 go_wp2_with fail
 refine (HX.out _ (HT.out.later HA.out.b)).mono ?_
 rintro e w2 ⟨rfl, hb2⟩
 have H2 := h_ (HA.out.later hb2)
 clear n0 n1 n2 n3 n4 n5 n6 n7 nz
 obtain ⟨n0, n1, n2, n3, n4, n5, n6, n7, nz⟩ := d_ H2.out.nd
 clear hb2
 go_wp2_with fail
 refine (HL.out _ H2.out.b).mono ?_
 rintro e w3 ⟨Aa, ca, rfl, hpl, hb3⟩
 have H3 := h_ (H2.out.later hb3)
 have HPL := h_ hpl
 clear n0 n1 n2 n3 n4 n5 n6 n7 nz
 obtain ⟨n0, n1, n2, n3, n4, n5, n6, n7, nz⟩ := d_ H3.out.nd
 clear hb3 hpl
 go_wp2_with fail
 all_goals (first
  | (go_ret; exact ⟨rfl, H3.out.b⟩)
  | (exfalso; exact HX9.out ⟨by omega, by omega, by omega, fun hr => by first | (exfalso; simp_all; done) | exact ⟨by simpa using _z0, by assumption, by first | omega | (exact List.length_eq_zero_iff.2 (by assumption)) | (simp_all; done), by first | omega | (exact List.length_eq_zero_iff.2 (by assumption)) | (simp_all; done) | (trace_state; done)⟩⟩))
theorem kj_ (w : World) (T : Option Addr) (N Nc : Nat) (n : NodeV) (HT : Hid (Tabs w)) (_HI : Hid (n.In w)) (hN0 : 0 < N) (hN : N ≤ 7) (pl : List Int) (Hme : Hid (0 ≤ n.me ∧ n.me ≤ (N : Int) - 1)) (Hep : Hid (1 ≤ n.ep ∧ n.ep ≤ 1048575)) (Hup : Hid (0 ≤ n.up ∧ n.up ≤ 1048576)) (_z0 : (n.me == 0) = true) (_zp : decide (0 < n.me) = false) (_u0 : (n.up != 0) = false) (HX9 : Hid (¬ (pl.length = n.S.length ∧ n.U.length ≤ 12 ∧ n.M.length ≤ 1 ∧ (n.rd = false → n.me ≠ 0 ∧ n.t.toList = [] ∧ n.U.length = 0 ∧ n.M.length = 0)))) (HC : Hid (∀ W, Below w.heap.size w W → Calls Tryz.prog 54 #[.slice T N Nc] W fun e w' => e = .returned (.int .i64 0) ∧ W = w')) (HX : Hid (∀ W, Tabs W → Calls Tryz.prog 56 #[.string n.t] W (R_ W (.int .i64 0)))) (HL : Hid (∀ W, Below w.heap.size w W → Calls Tryz.prog 57 #[.slice T N Nc, .int .i64 n.me] W (RetInts W pl))) :
 Calls Tryz.prog 22 #[.slice T N Nc, n.val] w (R_ w (.int .i64 9)) := by
 have HA := h_ (OneAt.new w n)
 obtain ⟨WA, hWA⟩ : ∃ WA, WA = w.alloc (.cells #[.int .i64 n.me, .int .i64 n.ep, .int .i64 n.up, .bool n.rd, .string n.t, .slice n.sA n.S.length n.sc, .slice n.uA n.U.length n.uc, .slice n.mA n.M.length n.mc] 28) := ⟨_, rfl⟩
 rw [← hWA] at HA
 have HW := h_ hWA.symm
 clear hWA
 go_enter Tryz.func22, Tryz.ntmps22
 go_wp2_with fail
 rw [HW.out]
 refine (HC.out _ HA.out.b).mono ?_
 rintro e w1 ⟨rfl, rfl⟩
 obtain ⟨n0, n1, n2, n3, n4, n5, n6, n7, nz⟩ := d_ HA.out.nd
 have hw1 : wrap64 ((N : Int) - 1) = (N : Int) - 1 := cd_ hN0 hN
 go_wp2_with fail
 refine (c_ n.me 0 ((N : Int) - 1) _ Hme.out.1 Hme.out.2).mono ?_
 rintro e wi ⟨rfl, rfl⟩
 go_wp2_with fail
 refine (c_ n.ep 1 1048575 _ Hep.out.1 Hep.out.2).mono ?_
 rintro e wi ⟨rfl, rfl⟩
 go_wp2_with fail
 refine (c_ n.up 0 1048576 _ Hup.out.1 Hup.out.2).mono ?_
 rintro e wi ⟨rfl, rfl⟩
 go_wp2_with fail
 refine (HX.out _ (HT.out.later HA.out.b)).mono ?_
 rintro e w2 ⟨rfl, hb2⟩
 have H2 := h_ (HA.out.later hb2)
 clear n0 n1 n2 n3 n4 n5 n6 n7 nz
 obtain ⟨n0, n1, n2, n3, n4, n5, n6, n7, nz⟩ := d_ H2.out.nd
 clear hb2
 go_wp2_with fail
 refine (HL.out _ H2.out.b).mono ?_
 rintro e w3 ⟨Aa, ca, rfl, hpl, hb3⟩
 have H3 := h_ (H2.out.later hb3)
 have HPL := h_ hpl
 clear n0 n1 n2 n3 n4 n5 n6 n7 nz
 obtain ⟨n0, n1, n2, n3, n4, n5, n6, n7, nz⟩ := d_ H3.out.nd
 clear hb3 hpl
 go_wp2_with fail
 all_goals (first
  | (go_ret; exact ⟨rfl, H3.out.b⟩)
  | (exfalso; exact HX9.out ⟨by omega, by omega, by omega, fun hr => by first | (exfalso; simp_all; done) | exact ⟨by simpa using _z0, by assumption, by first | omega | (exact List.length_eq_zero_iff.2 (by assumption)) | (simp_all; done), by first | omega | (exact List.length_eq_zero_iff.2 (by assumption)) | (simp_all; done) | (trace_state; done)⟩⟩))
end Go.Proofs.YtacacoklddogmaaGreatDoor
