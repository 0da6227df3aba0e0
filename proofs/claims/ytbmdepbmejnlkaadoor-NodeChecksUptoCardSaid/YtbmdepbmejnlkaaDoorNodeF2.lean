/-
  Contract of the reference's NodeFault: lengths and readiness.
-/
import Derived.Test.YtbmdepbmejnlkaaDoorRows
import Derived.Test.YtbmdepbmejnlkaaDoorNodeF
namespace Go.Proofs.YtbmdepbmejnlkaaDoor
open Go.ChangeShapes Go.WideShapes Go.ChangeAt Go.RowKit
set_option maxRecDepth 100000
set_option maxHeartbeats 1000000 in
theorem NodeFault_lens_p (w : World) (T : Option Addr) (N Nc : Nat) (n : NodeV) (HT : Hid (Tabs w)) (_HI : Hid (n.In w)) (hN0 : 0 < N) (hN : N ≤ 7) (pl : List Int) (Hme : Hid (0 ≤ n.me ∧ n.me ≤ (N : Int) - 1)) (Hep : Hid (1 ≤ n.ep ∧ n.ep ≤ 1048575)) (Hup : Hid (0 ≤ n.up ∧ n.up ≤ 1048576)) (_z0 : (n.me == 0) = false) (_zp : decide (0 < n.me) = true) (HX9 : Hid (¬ (pl.length = n.S.length ∧ n.U.length ≤ 12 ∧ n.M.length ≤ 1 ∧ (n.rd = false → n.me ≠ 0 ∧ n.t.toList = [] ∧ n.U.length = 0 ∧ n.M.length = 0)))) (HC : Hid (∀ W, Below w.heap.size w W → Calls Tryd.prog 30 #[.slice T N Nc] W fun e w' => e = .returned (.int .i64 0) ∧ W = w')) (HX : Hid (∀ W, Tabs W → Calls Tryd.prog 32 #[.string n.t] W fun e w' => e = .returned (.int .i64 0) ∧ Below W.heap.size W w')) (HL : Hid (∀ W, Below w.heap.size w W → Calls Tryd.prog 33 #[.slice T N Nc, .int .i64 n.me] W (RetInts W pl))) :
    Calls Tryd.prog 9 #[.slice T N Nc, n.val] w fun r w' => r = .returned (.int .i64 9) ∧ Below w.heap.size w w' := by
  have HA := Lib.hid (OneAt.new w n)
  obtain ⟨WA, hWA⟩ : ∃ WA, WA = w.alloc (.cells #[.int .i64 n.me, .int .i64 n.ep, .int .i64 n.up, .bool n.rd, .string n.t, .slice n.sA n.S.length n.sc, .slice n.uA n.U.length n.uc, .slice n.mA n.M.length n.mc] 28) := ⟨_, rfl⟩
  rw [← hWA] at HA
  have HW := Lib.hid hWA.symm
  clear hWA
  go_enter Tryd.func9, Tryd.ntmps9
  go_wp2_with fail
  rw [HW.out]
  refine (HC.out _ HA.out.b).mono ?_
  rintro e w1 ⟨rfl, rfl⟩
  obtain ⟨n0, n1, n2, n3, n4, n5, n6, n7, nz⟩ := node_cell HA.out.nd
  have hw1 : wrap64 ((N : Int) - 1) = (N : Int) - 1 := wrap_pred hN0 hN
  go_wp2_with fail
  refine (In_yes n.me 0 ((N : Int) - 1) _ Hme.out.1 Hme.out.2).mono ?_
  rintro e wi ⟨rfl, rfl⟩
  go_wp2_with fail
  refine (In_yes n.ep 1 1048575 _ Hep.out.1 Hep.out.2).mono ?_
  rintro e wi ⟨rfl, rfl⟩
  go_wp2_with fail
  refine (In_yes n.up 0 1048576 _ Hup.out.1 Hup.out.2).mono ?_
  rintro e wi ⟨rfl, rfl⟩
  go_wp2_with fail
  refine (HX.out _ (HT.out.later HA.out.b)).mono ?_
  rintro e w2 ⟨rfl, hb2⟩
  have H2 := Lib.hid (HA.out.later hb2)
  clear n0 n1 n2 n3 n4 n5 n6 n7 nz
  obtain ⟨n0, n1, n2, n3, n4, n5, n6, n7, nz⟩ := node_cell H2.out.nd
  clear hb2
  go_wp2_with fail
  refine (HL.out _ H2.out.b).mono ?_
  rintro e w3 ⟨Aa, ca, rfl, hpl, hb3⟩
  have H3 := Lib.hid (H2.out.later hb3)
  have HPL := Lib.hid hpl
  clear n0 n1 n2 n3 n4 n5 n6 n7 nz
  obtain ⟨n0, n1, n2, n3, n4, n5, n6, n7, nz⟩ := node_cell H3.out.nd
  clear hb3 hpl
  go_wp2_with fail
  all_goals (first
    | (go_ret; exact ⟨rfl, H3.out.b⟩)
    | (exfalso; exact HX9.out ⟨by omega, by omega, by omega, fun hr => by first | (exfalso; simp_all; done) | exact ⟨by simpa using _z0, by assumption, by first | omega | (exact List.length_eq_zero_iff.2 (by assumption)) | (simp_all; done), by first | omega | (exact List.length_eq_zero_iff.2 (by assumption)) | (simp_all; done) | (trace_state; done)⟩⟩))
set_option maxHeartbeats 1000000 in
theorem NodeFault_lens_z (w : World) (T : Option Addr) (N Nc : Nat) (n : NodeV) (HT : Hid (Tabs w)) (_HI : Hid (n.In w)) (hN0 : 0 < N) (hN : N ≤ 7) (pl : List Int) (Hme : Hid (0 ≤ n.me ∧ n.me ≤ (N : Int) - 1)) (Hep : Hid (1 ≤ n.ep ∧ n.ep ≤ 1048575)) (Hup : Hid (0 ≤ n.up ∧ n.up ≤ 1048576)) (_z0 : (n.me == 0) = true) (_zp : decide (0 < n.me) = false) (_u0 : (n.up != 0) = false) (HX9 : Hid (¬ (pl.length = n.S.length ∧ n.U.length ≤ 12 ∧ n.M.length ≤ 1 ∧ (n.rd = false → n.me ≠ 0 ∧ n.t.toList = [] ∧ n.U.length = 0 ∧ n.M.length = 0)))) (HC : Hid (∀ W, Below w.heap.size w W → Calls Tryd.prog 30 #[.slice T N Nc] W fun e w' => e = .returned (.int .i64 0) ∧ W = w')) (HX : Hid (∀ W, Tabs W → Calls Tryd.prog 32 #[.string n.t] W fun e w' => e = .returned (.int .i64 0) ∧ Below W.heap.size W w')) (HL : Hid (∀ W, Below w.heap.size w W → Calls Tryd.prog 33 #[.slice T N Nc, .int .i64 n.me] W (RetInts W pl))) :
    Calls Tryd.prog 9 #[.slice T N Nc, n.val] w fun r w' => r = .returned (.int .i64 9) ∧ Below w.heap.size w w' := by
  have HA := Lib.hid (OneAt.new w n)
  obtain ⟨WA, hWA⟩ : ∃ WA, WA = w.alloc (.cells #[.int .i64 n.me, .int .i64 n.ep, .int .i64 n.up, .bool n.rd, .string n.t, .slice n.sA n.S.length n.sc, .slice n.uA n.U.length n.uc, .slice n.mA n.M.length n.mc] 28) := ⟨_, rfl⟩
  rw [← hWA] at HA
  have HW := Lib.hid hWA.symm
  clear hWA
  go_enter Tryd.func9, Tryd.ntmps9
  go_wp2_with fail
  rw [HW.out]
  refine (HC.out _ HA.out.b).mono ?_
  rintro e w1 ⟨rfl, rfl⟩
  obtain ⟨n0, n1, n2, n3, n4, n5, n6, n7, nz⟩ := node_cell HA.out.nd
  have hw1 : wrap64 ((N : Int) - 1) = (N : Int) - 1 := wrap_pred hN0 hN
  go_wp2_with fail
  refine (In_yes n.me 0 ((N : Int) - 1) _ Hme.out.1 Hme.out.2).mono ?_
  rintro e wi ⟨rfl, rfl⟩
  go_wp2_with fail
  refine (In_yes n.ep 1 1048575 _ Hep.out.1 Hep.out.2).mono ?_
  rintro e wi ⟨rfl, rfl⟩
  go_wp2_with fail
  refine (In_yes n.up 0 1048576 _ Hup.out.1 Hup.out.2).mono ?_
  rintro e wi ⟨rfl, rfl⟩
  go_wp2_with fail
  refine (HX.out _ (HT.out.later HA.out.b)).mono ?_
  rintro e w2 ⟨rfl, hb2⟩
  have H2 := Lib.hid (HA.out.later hb2)
  clear n0 n1 n2 n3 n4 n5 n6 n7 nz
  obtain ⟨n0, n1, n2, n3, n4, n5, n6, n7, nz⟩ := node_cell H2.out.nd
  clear hb2
  go_wp2_with fail
  refine (HL.out _ H2.out.b).mono ?_
  rintro e w3 ⟨Aa, ca, rfl, hpl, hb3⟩
  have H3 := Lib.hid (H2.out.later hb3)
  have HPL := Lib.hid hpl
  clear n0 n1 n2 n3 n4 n5 n6 n7 nz
  obtain ⟨n0, n1, n2, n3, n4, n5, n6, n7, nz⟩ := node_cell H3.out.nd
  clear hb3 hpl
  go_wp2_with fail
  all_goals (first
    | (go_ret; exact ⟨rfl, H3.out.b⟩)
    | (exfalso; exact HX9.out ⟨by omega, by omega, by omega, fun hr => by first | (exfalso; simp_all; done) | exact ⟨by simpa using _z0, by assumption, by first | omega | (exact List.length_eq_zero_iff.2 (by assumption)) | (simp_all; done), by first | omega | (exact List.length_eq_zero_iff.2 (by assumption)) | (simp_all; done) | (trace_state; done)⟩⟩))
end Go.Proofs.YtbmdepbmejnlkaaDoor
