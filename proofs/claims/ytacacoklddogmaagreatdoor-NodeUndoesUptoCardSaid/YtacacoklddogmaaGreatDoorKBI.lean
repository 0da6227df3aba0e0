/- A part of the proof of NodeUndoes. -/
import Derived.Test.YtacacoklddogmaaGreatDoorKBH
namespace Go.Proofs.YtacacoklddogmaaGreatDoor
set_option maxHeartbeats 4000000
open Go.ChangeShapes Go.WideShapes Go.ChangeAt Go.RowKit
set_option maxRecDepth 100000
structure OneAt (w : World) (n : NodeV) (W : World) : Prop where
 nd : NodeAt W w.heap.size n
 b : Below w.heap.size w W
theorem OneAt.new (w : World) (n : NodeV) : OneAt w n (w.alloc (.cells #[.int .i64 n.me, .int .i64 n.ep, .int .i64 n.up, .bool n.rd, .string n.t, .slice n.sA n.S.length n.sc, .slice n.uA n.U.length n.uc, .slice n.mA n.M.length n.mc] 28)) := ⟨World.alloc_heap_new _ _, bA_⟩
theorem OneAt.later {w W W' : World} {n : NodeV} (k : OneAt w n W) (hb : Below W.heap.size W W') : OneAt w n W' :=
 ⟨(hb.block _ (Array.getElem?_eq_some_iff.1 k.nd).1).trans k.nd, bThen k.b hb⟩
theorem mj_ (w : World) (T : Option Addr) (N Nc : Nat) (zs : List Int) (n : NodeV) (_HT : Hid (Tabs w)) (_HI : Hid (n.In w)) (_HZ : Hid (Sl (· < w.heap.size) w 1 T N (zs.map (Value.int .i64)))) (_hN : N ≤ 9223372036854775807) (er : Int) (_he : (er != 0) = true) (HC : Hid (∀ W, Below w.heap.size w W → Calls Tryz.prog 83 #[.slice T N Nc] W fun e w' => e = .returned (.int .i64 er) ∧ W = w')) :
 Calls Tryz.prog 43 #[.slice T N Nc, n.val] w (R_ w (.int .i64 er)) := by
 have HA := h_ (OneAt.new w n)
 obtain ⟨WA, hWA⟩ : ∃ WA, WA = w.alloc (.cells #[.int .i64 n.me, .int .i64 n.ep, .int .i64 n.up, .bool n.rd, .string n.t, .slice n.sA n.S.length n.sc, .slice n.uA n.U.length n.uc, .slice n.mA n.M.length n.mc] 28) := ⟨_, rfl⟩
 rw [← hWA] at HA
 have HW := h_ hWA.symm
 clear hWA
 go_enter Tryz.func43, Tryz.ntmps43
 go_wp2_with fail
 rw [HW.out]
 refine (HC.out _ HA.out.b).mono ?_
 rintro e w1 ⟨rfl, rfl⟩
 obtain ⟨n0, n1, n2, n3, n4, n5, n6, n7, nz⟩ := d_ HA.out.nd
 go_wp2_with fail
 go_ret
 exact ⟨rfl, HA.out.b⟩
theorem mi_ (w : World) (T : Option Addr) (N Nc : Nat) (zs : List Int) (n : NodeV) (HT : Hid (Tabs w)) (_HI : Hid (n.In w)) (_HZ : Hid (Sl (· < w.heap.size) w 1 T N (zs.map (Value.int .i64)))) (_hN : N ≤ 9223372036854775807) (er : Int) (H : Hid (¬ ((0 ≤ n.me ∧ n.me < N) ∧ (1 ≤ n.ep ∧ n.ep < 1048576) ∧ (0 ≤ n.up ∧ n.up ≤ 1048576) ∧ ¬ (n.me = 0 ∧ 0 < n.up) ∧ er = 0))) (HC : Hid (∀ W, Below w.heap.size w W → Calls Tryz.prog 83 #[.slice T N Nc] W fun e w' => e = .returned (.int .i64 0) ∧ W = w')) (HX : Hid (∀ W, Tabs W → Calls Tryz.prog 84 #[.string n.t] W (R_ W (.int .i64 er)))) :
 Calls Tryz.prog 43 #[.slice T N Nc, n.val] w (R_ w (.int .i64 9)) := by
 have HA := h_ (OneAt.new w n)
 obtain ⟨WA, hWA⟩ : ∃ WA, WA = w.alloc (.cells #[.int .i64 n.me, .int .i64 n.ep, .int .i64 n.up, .bool n.rd, .string n.t, .slice n.sA n.S.length n.sc, .slice n.uA n.U.length n.uc, .slice n.mA n.M.length n.mc] 28) := ⟨_, rfl⟩
 rw [← hWA] at HA
 have HW := h_ hWA.symm
 clear hWA
 go_enter Tryz.func43, Tryz.ntmps43
 go_wp2_with fail
 rw [HW.out]
 refine (HC.out _ HA.out.b).mono ?_
 rintro e w1 ⟨rfl, rfl⟩
 obtain ⟨n0, n1, n2, n3, n4, n5, n6, n7, nz⟩ := d_ HA.out.nd
 go_wp2_with fail
 all_goals (first
  | (go_ret; exact ⟨rfl, HA.out.b⟩)
  | (refine (HX.out _ (HT.out.later HA.out.b)).mono ?_
     rintro e w2 ⟨rfl, hb2⟩
     have H2 := h_ (HA.out.later hb2)
     clear n0 n1 n2 n3 n4 n5 n6 n7 nz
     obtain ⟨n0, n1, n2, n3, n4, n5, n6, n7, nz⟩ := d_ H2.out.nd
     clear hb2
     go_wp2_with fail
     all_goals (first
      | (go_ret; exact ⟨rfl, H2.out.b⟩)
      | (exfalso; have := H.out; first | omega | (simp_all; done) | (simp_all; omega)))))
theorem kg_ (w : World) (T : Option Addr) (N Nc : Nat) (zs : List Int) (n : NodeV) (HT : Hid (Tabs w)) (_HI : Hid (n.In w)) (_HZ : Hid (Sl (· < w.heap.size) w 1 T N (zs.map (Value.int .i64)))) (_hN : N ≤ 9223372036854775807) (pl : List Int) (ub : Bool) (t1 : decide (n.me < 0) = false) (t2 : decide ((N : Int) ≤ n.me) = false) (t3 : decide (n.ep < 1) = false) (t4 : decide (1048576 ≤ n.ep) = false) (t5 : decide (n.up < 0) = false) (t6 : decide (1048576 < n.up) = false) (_z0 : (n.me == 0) = false) (_zp : decide (0 < n.me) = true) (HWR : Hid (wrap64 ((n.U.length : Int) + (n.M.length : Int)) = ((n.U.length + n.M.length : Nat) : Int))) (H : Hid (¬ (pl.length = n.S.length ∧ ub = true ∧ n.M.length ≤ 1 ∧ (n.rd = false → n.me ≠ 0 ∧ n.t.toList = [] ∧ n.U.length = 0 ∧ n.M.length = 0)))) (HC : Hid (∀ W, Below w.heap.size w W → Calls Tryz.prog 83 #[.slice T N Nc] W fun e w' => e = .returned (.int .i64 0) ∧ W = w')) (HX : Hid (∀ W, Tabs W → Calls Tryz.prog 84 #[.string n.t] W (R_ W (.int .i64 0)))) (HL : Hid (∀ W, Below w.heap.size w W → Calls Tryz.prog 85 #[.slice T N Nc, .int .i64 n.me] W (RetInts W pl))) (HU : Hid (∀ W, Below w.heap.size w W → Calls Tryz.prog 86 #[n.val] W (R_ W (.bool ub)))) :
 Calls Tryz.prog 43 #[.slice T N Nc, n.val] w (R_ w (.int .i64 9)) := by
 have HA := h_ (OneAt.new w n)
 obtain ⟨WA, hWA⟩ : ∃ WA, WA = w.alloc (.cells #[.int .i64 n.me, .int .i64 n.ep, .int .i64 n.up, .bool n.rd, .string n.t, .slice n.sA n.S.length n.sc, .slice n.uA n.U.length n.uc, .slice n.mA n.M.length n.mc] 28) := ⟨_, rfl⟩
 rw [← hWA] at HA
 have HW := h_ hWA.symm
 clear hWA
 go_enter Tryz.func43, Tryz.ntmps43
 go_wp2_with fail
 rw [HW.out]
 refine (HC.out _ HA.out.b).mono ?_
 rintro e w1 ⟨rfl, rfl⟩
 obtain ⟨n0, n1, n2, n3, n4, n5, n6, n7, nz⟩ := d_ HA.out.nd
 go_wp2_with fail
 refine (HX.out _ (HT.out.later HA.out.b)).mono ?_
 rintro e w2 ⟨rfl, hb2⟩
 have H2 := h_ (HA.out.later hb2)
 clear n0 n1 n2 n3 n4 n5 n6 n7 nz
 obtain ⟨n0, n1, n2, n3, n4, n5, n6, n7, nz⟩ := d_ H2.out.nd
 clear hb2
 go_wp2_with fail
 refine (HL.out _ H2.out.b).mono ?_
 rintro e w3 ⟨Aa, ca, rfl, hpl, hb3⟩
 have H3 := h_ (H2.out.later hb3)
 have HPL := h_ hpl
 clear n0 n1 n2 n3 n4 n5 n6 n7 nz
 obtain ⟨n0, n1, n2, n3, n4, n5, n6, n7, nz⟩ := d_ H3.out.nd
 clear hb3 hpl
 go_wp2_with fail
 all_goals (first
  | (go_ret; exact ⟨rfl, H3.out.b⟩)
  | (refine (HU.out _ H3.out.b).mono ?_
     rintro e w4 ⟨rfl, hb4⟩
     have H4 := h_ (H3.out.later hb4)
     clear n0 n1 n2 n3 n4 n5 n6 n7 nz
     obtain ⟨n0, n1, n2, n3, n4, n5, n6, n7, nz⟩ := d_ H4.out.nd
     clear hb4
     have hw := HWR.out
     go_wp2_with fail
     all_goals (first
      | (go_ret; exact ⟨rfl, H4.out.b⟩)
      | (exfalso; exact H.out ⟨by omega, by assumption, by omega, fun hr => by first | (exfalso; simp_all; done) | exact ⟨by simpa using _z0, by assumption, by omega, by omega⟩⟩))))
theorem kh_ (w : World) (T : Option Addr) (N Nc : Nat) (zs : List Int) (n : NodeV) (HT : Hid (Tabs w)) (_HI : Hid (n.In w)) (_HZ : Hid (Sl (· < w.heap.size) w 1 T N (zs.map (Value.int .i64)))) (_hN : N ≤ 9223372036854775807) (pl : List Int) (ub : Bool) (t1 : decide (n.me < 0) = false) (t2 : decide ((N : Int) ≤ n.me) = false) (t3 : decide (n.ep < 1) = false) (t4 : decide (1048576 ≤ n.ep) = false) (t5 : decide (n.up < 0) = false) (t6 : decide (1048576 < n.up) = false) (_z0 : (n.me == 0) = true) (_zp : decide (0 < n.me) = false) (_u0 : decide (0 < n.up) = false) (HWR : Hid (wrap64 ((n.U.length : Int) + (n.M.length : Int)) = ((n.U.length + n.M.length : Nat) : Int))) (H : Hid (¬ (pl.length = n.S.length ∧ ub = true ∧ n.M.length ≤ 1 ∧ (n.rd = false → n.me ≠ 0 ∧ n.t.toList = [] ∧ n.U.length = 0 ∧ n.M.length = 0)))) (HC : Hid (∀ W, Below w.heap.size w W → Calls Tryz.prog 83 #[.slice T N Nc] W fun e w' => e = .returned (.int .i64 0) ∧ W = w')) (HX : Hid (∀ W, Tabs W → Calls Tryz.prog 84 #[.string n.t] W (R_ W (.int .i64 0)))) (HL : Hid (∀ W, Below w.heap.size w W → Calls Tryz.prog 85 #[.slice T N Nc, .int .i64 n.me] W (RetInts W pl))) (HU : Hid (∀ W, Below w.heap.size w W → Calls Tryz.prog 86 #[n.val] W (R_ W (.bool ub)))) :
 Calls Tryz.prog 43 #[.slice T N Nc, n.val] w (R_ w (.int .i64 9)) := by
 have HA := h_ (OneAt.new w n)
 obtain ⟨WA, hWA⟩ : ∃ WA, WA = w.alloc (.cells #[.int .i64 n.me, .int .i64 n.ep, .int .i64 n.up, .bool n.rd, .string n.t, .slice n.sA n.S.length n.sc, .slice n.uA n.U.length n.uc, .slice n.mA n.M.length n.mc] 28) := ⟨_, rfl⟩
 rw [← hWA] at HA
 have HW := h_ hWA.symm
 clear hWA
 go_enter Tryz.func43, Tryz.ntmps43
 go_wp2_with fail
 rw [HW.out]
 refine (HC.out _ HA.out.b).mono ?_
 rintro e w1 ⟨rfl, rfl⟩
 obtain ⟨n0, n1, n2, n3, n4, n5, n6, n7, nz⟩ := d_ HA.out.nd
 go_wp2_with fail
 refine (HX.out _ (HT.out.later HA.out.b)).mono ?_
 rintro e w2 ⟨rfl, hb2⟩
 have H2 := h_ (HA.out.later hb2)
 clear n0 n1 n2 n3 n4 n5 n6 n7 nz
 obtain ⟨n0, n1, n2, n3, n4, n5, n6, n7, nz⟩ := d_ H2.out.nd
 clear hb2
 go_wp2_with fail
 refine (HL.out _ H2.out.b).mono ?_
 rintro e w3 ⟨Aa, ca, rfl, hpl, hb3⟩
 have H3 := h_ (H2.out.later hb3)
 have HPL := h_ hpl
 clear n0 n1 n2 n3 n4 n5 n6 n7 nz
 obtain ⟨n0, n1, n2, n3, n4, n5, n6, n7, nz⟩ := d_ H3.out.nd
 clear hb3 hpl
 go_wp2_with fail
 all_goals (first
  | (go_ret; exact ⟨rfl, H3.out.b⟩)
  | (refine (HU.out _ H3.out.b).mono ?_
     rintro e w4 ⟨rfl, hb4⟩
     have H4 := h_ (H3.out.later hb4)
     clear n0 n1 n2 n3 n4 n5 n6 n7 nz
     obtain ⟨n0, n1, n2, n3, n4, n5, n6, n7, nz⟩ := d_ H4.out.nd
     clear hb4
     have hw := HWR.out
     go_wp2_with fail
     all_goals (first
      | (go_ret; exact ⟨rfl, H4.out.b⟩)
      | (exfalso; exact H.out ⟨by omega, by assumption, by omega, fun hr => by first | (exfalso; simp_all; done) | exact ⟨by simpa using _z0, by assumption, by omega, by omega⟩⟩))))
end Go.Proofs.YtacacoklddogmaaGreatDoor
