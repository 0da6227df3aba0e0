/-
  Contract of the reference's RecordOf.
-/
import Derived.Test.YtieofljkgmkaiaaDoorRows
import Derived.Test.YtieofljkgmkaiaaDoorReads
import Derived.Test.YtieofljkgmkaiaaDoorHide
namespace Go.Proofs.YtieofljkgmkaiaaDoor
open Go.ChangeShapes Go.WideShapes Go.ChangeAt Go.RowKit
set_option maxRecDepth 100000
theorem RecordOf_big (w : World) (A : Option Addr) (c : Nat) (bs : List UInt8) (hl : 50000 < bs.length) :
    Calls Tryd.prog 82 #[.slice A bs.length c] w (RetRec w 0 [] 1) := by
  have e0 : decide ((50000 : Int) < (bs.length : Int)) = true := by simp; omega
  go_enter Tryd.func82, Tryd.ntmps82
  go_wp2_with fail
  refine bodyPost_ret (v := .tuple #[recordV 0 none 0 0, .int .i64 1]) (by simp [results, Tryd.results82, go_sem]) rfl ?_
  exact ⟨none, 0, rfl, Sl.nil, (by repeat (first | exact Below.refl _ _ | apply bGrow | apply bAlloc | apply Below.drew | apply bDrewN | apply bIter))⟩
set_option maxHeartbeats 2000000 in
theorem RecordOf_za (w : World) (A : Option Addr) (c : Nat) (bs : List UInt8) (hs : Sl (· < w.heap.size) w 1 A bs.length (bs.map byteV)) (hc : bs.length ≤ c ∧ c ≤ 9223372036854775807) (hl : bs.length ≤ 50000) (_HT : Hid (Tabs w)) (f2 : Int) (_f0 : (f2 == 0) = false) (l2 : List UInt8) (l1 : List UInt8) (f1 : Int) (hl1 : l1.length ≤ 50000) (ps : List PartD)
    (HX : Hid (readNum bs 0 = (0, l1, f1))) (HY : Hid (readOp l1 f1 = (ps, l2, f2))) :
    Calls Tryd.prog 82 #[.slice A bs.length c] w (RetRec w 0 [] f2) := by
  have e0 : decide ((50000 : Int) < (bs.length : Int)) = false := by simp; omega
  obtain ⟨W1, hW1⟩ : ∃ W1, W1 = w.alloc (.cells #[.int .i64 0, .slice none 0 0] 132) := ⟨_, rfl⟩
  obtain ⟨W2, hW2⟩ : ∃ W2, W2 = W1.alloc (.cells #[.slice A bs.length c, .int .i64 0, .int .i64 0] 146) := ⟨_, rfl⟩
  obtain ⟨WA, hWA⟩ : ∃ WA, WA = W2.alloc (.cells #[.int .i64 0, .slice none 0 0] 132) := ⟨_, rfl⟩
  have g1 : W1.heap.size = w.heap.size + 1 := by rw [hW1]; simp
  have g2 : W2.heap.size = W1.heap.size + 1 := by rw [hW2]; simp
  have g3 : WA.heap.size = W2.heap.size + 1 := by rw [hWA]; simp
  have k1 : Below w.heap.size w W1 := by rw [hW1]; exact bAlloc (Below.refl _ _) _
  have k2 : Below W1.heap.size W1 W2 := by rw [hW2]; exact bAlloc (Below.refl _ _) _
  have k3 : Below W2.heap.size W2 WA := by rw [hWA]; exact bAlloc (Below.refl _ _) _
  have HR0A := Lib.hid (show RecAt WA w.heap.size 0 none 0 0 from (k3.block _ (by omega)).trans ((k2.block _ (by omega)).trans (by rw [hW1]; show (w.heap.push _)[w.heap.size]? = _; simp)))
  have HEA := Lib.hid (show Ey WA W1.heap.size bs bs 0 from Ey.later (by rw [hW2]; exact Ey.fresh W1 A bs c (Sl.later hs k1) hl hc.1 hc.2) k3)
  have HPA := Lib.hid (show RecAt WA W2.heap.size 0 none 0 0 by rw [hWA]; show (W2.heap.push _)[W2.heap.size]? = _; simp)
  have HBA := Lib.hid (bThen k1 (bThen k2 k3))
  have HW := Lib.hid (show ((w.alloc (.cells #[.int .i64 0, .slice none 0 0] 132)).alloc (.cells #[.slice A bs.length c, .int .i64 0, .int .i64 0] 146)).alloc (.cells #[.int .i64 0, .slice none 0 0] 132) = WA by rw [hWA, hW2, hW1])
  obtain ⟨B, hB⟩ : ∃ B, B = W1.heap.size := ⟨_, rfl⟩
  obtain ⟨P, hP⟩ : ∃ P, P = W2.heap.size := ⟨_, rfl⟩
  have HE1 := Lib.hid (show w.heap.size + 1 + 1 = P by omega)
  have HE2 := Lib.hid (show w.heap.size + 1 = B by omega)
  have hRB : w.heap.size < B := by omega
  have hBP : B < P := by omega
  have hPz : P < WA.heap.size := by omega
  rw [← hB] at HEA
  rw [← hP] at HPA
  have HT1 := Lib.hid (enum_all WA B bs bs 0 HEA.out)
  rw [HX.out] at HT1
  clear hB hP k1 k2 k3 g1 g2 g3 hWA hW2 hW1
  go_enter Tryd.func82, Tryd.ntmps82
  go_wp2_with fail
  rw [HW.out, HE1.out, HE2.out]
  refine HT1.out.mono ?_
  rintro e w2 ⟨rfl, hr2, ho2⟩
  try dsimp only at hr2
  have hz2 := ho2.size
  have HP2 := Lib.hid (show RecAt w2 P 0 none 0 0 from (ho2.block _ (by omega) (by omega)).trans HPA.out)
  obtain ⟨p0, p1, q0, q1, _⟩ := two_cell HP2.out
  obtain ⟨WB, hWB⟩ : ∃ WB, WB = w2.setCell ⟨P, 0, none⟩ (.int .i64 0) := ⟨_, rfl⟩
  have hzB : WB.heap.size = w2.heap.size := by rw [hWB]; simp [World.setCell]
  have HPB := Lib.hid (show RecAt WB P 0 none 0 0 by rw [hWB]; exact two_set0 HP2.out)
  have HEB := Lib.hid (show Ey WB B bs l1 f1 by rw [hWB]; exact hr2.keep (fun k hk => Below.heap_setCell _ _ _ _ (show k ≠ P by omega)))
  have HR0B := Lib.hid (show RecAt WB w.heap.size 0 none 0 0 by rw [hWB]; exact (Below.heap_setCell _ _ _ _ (show w.heap.size ≠ P by omega)).trans ((ho2.block _ (by omega) (by omega)).trans HR0A.out))
  have HBB := Lib.hid (show Below w.heap.size w WB by rw [hWB]; exact bSet (HBA.out.trans (ho2.below (by omega) (by omega))) (p := ⟨P, 0, none⟩) (show w.heap.size ≤ P by omega) _)
  have HWB := Lib.hid hWB
  obtain ⟨b0, b1, b2, b3, _⟩ := two_cell HPB.out
  have n1 : ¬ B = P := by omega
  have n2 : ¬ P = B := by omega
  have n3 : ¬ w.heap.size = P := by omega
  have n4 : ¬ P = w.heap.size := by omega
  have n5 : ¬ w.heap.size = B := by omega
  have n6 : ¬ B = w.heap.size := by omega
  clear hWB ho2 HT1
  have HT2 := Lib.hid (eops_c WB B bs l1 f1 HEB.out hl1)
  rw [HY.out] at HT2
  go_wp2_with fail
  rw [← HWB.out]
  try go_wp2_with fail
  refine HT2.out.mono ?_
  rintro e w3 ⟨A3, c3, rfl, ho3, hr3, hon3⟩
  try dsimp only at ho3 hr3
  have hz3 := hon3.size
  have HP3 := Lib.hid (show RecAt w3 P 0 none 0 0 from (hon3.block _ (by omega) (by omega)).trans HPB.out)
  obtain ⟨p0, p1, q0, q1, _⟩ := two_cell HP3.out
  obtain ⟨W4, hW4⟩ : ∃ W4, W4 = w3.setCell ⟨P, 1, none⟩ (.slice A3 ps.length c3) := ⟨_, rfl⟩
  have hz4 : W4.heap.size = w3.heap.size := by rw [hW4]; simp [World.setCell]
  have HP4 := Lib.hid (show RecAt W4 P 0 A3 ps.length c3 by rw [hW4]; exact two_set1 HP3.out)
  have HE4 := Lib.hid (show Ey W4 B bs l2 f2 by rw [hW4]; exact hr3.keep (fun k hk => Below.heap_setCell _ _ _ _ (show k ≠ P by omega)))
  have HR04 := Lib.hid (show RecAt W4 w.heap.size 0 none 0 0 by rw [hW4]; exact (Below.heap_setCell _ _ _ _ (show w.heap.size ≠ P by omega)).trans ((hon3.block _ (by omega) (by omega)).trans HR0B.out))
  have HO4 := Lib.hid (show Sl (fun b => P < b ∧ b < W4.heap.size) W4 3 A3 ps.length (opCells ps) by rw [hz4, hW4]; exact (Sl.of_own w3 ho3).keep (fun b hb => ⟨by omega, hb.2⟩) (fun b hb => Below.heap_setCell _ _ _ _ (show b ≠ P by omega)))
  have HB4 := Lib.hid (show Below w.heap.size w W4 by rw [hW4]; exact bSet (HBB.out.trans (hon3.below (by omega) (by omega))) (p := ⟨P, 1, none⟩) (show w.heap.size ≤ P by omega) _)
  have HW4 := Lib.hid hW4
  obtain ⟨A5, c5, a5, t0, t1, t2, t3, t4, t5⟩ := hr3
  obtain ⟨r0, r1, r2, r3, r4⟩ := two_cell ((hon3.block w.heap.size (by omega) (by omega)).trans HR0B.out)
  have HC4 := Lib.hid (show W4.heap[B]? = some (.cells #[.slice A5 bs.length c5, .int .i64 (a5 : Nat), .int .i64 f2] 146 (0, 0)) by rw [hW4]; exact (Below.heap_setCell _ _ _ _ (show B ≠ P by omega)).trans t0)
  clear hW4 ho3 hon3 HT2
  have hPW : P < W4.heap.size := by omega
  obtain ⟨s0, s1, s2, s3, s4, s5, s6⟩ := three_cell t0
  have hlen := congrArg List.length t2
  rw [List.length_drop] at hlen
  clear hlen
  have HBb := Lib.hid (show Below w.heap.size w (w3.setCell ⟨P, 1, none⟩ (.slice A3 ps.length c3)) by rw [← HW4.out]; exact HB4.out)
  have HRb := Lib.hid (show RecAt (w3.setCell ⟨P, 1, none⟩ (.slice A3 ps.length c3)) w.heap.size 0 none 0 0 by rw [← HW4.out]; exact HR04.out)
  go_wp2_with fail
  go_region
  go_wp2
  have hrw : RecAt (w3.setCell ⟨P, 1, none⟩ (.slice A3 ps.length c3)) w.heap.size 0 none 0 0 := HRb.out
  have z0 := (two_cell (two_set0 (x := .int .i64 0) hrw)).1
  have z1 := (two_cell (two_set1 (x := .slice none 0 0) (two_set0 (x := .int .i64 0) hrw))).2.1
  refine bodyPost_ret (v := .tuple #[.agg #[.int .i64 0, .slice none 0 0], .int .i64 f2]) (by simp [results, Tryd.results82, go_sem, z0, z1]) rfl ?_
  exact ⟨none, 0, rfl, Sl.nil, by repeat (first | exact HBb.out | apply Below.drew | apply bSet | exact Nat.le_refl _ | exact Nat.le_of_lt hRB)⟩
set_option maxHeartbeats 2000000 in
theorem RecordOf_zb (w : World) (A : Option Addr) (c : Nat) (bs : List UInt8) (hs : Sl (· < w.heap.size) w 1 A bs.length (bs.map byteV)) (hc : bs.length ≤ c ∧ c ≤ 9223372036854775807) (hl : bs.length ≤ 50000) (_HT : Hid (Tabs w)) (ch : UInt8) (tl : List UInt8) (l1 : List UInt8) (f1 : Int) (hl1 : l1.length ≤ 50000) (ps : List PartD)
    (HX : Hid (readNum bs 0 = (0, l1, f1))) (HY : Hid (readOp l1 f1 = (ps, (ch :: tl), 0))) :
    Calls Tryd.prog 82 #[.slice A bs.length c] w (RetRec w 0 [] 4) := by
  have e0 : decide ((50000 : Int) < (bs.length : Int)) = false := by simp; omega
  obtain ⟨W1, hW1⟩ : ∃ W1, W1 = w.alloc (.cells #[.int .i64 0, .slice none 0 0] 132) := ⟨_, rfl⟩
  obtain ⟨W2, hW2⟩ : ∃ W2, W2 = W1.alloc (.cells #[.slice A bs.length c, .int .i64 0, .int .i64 0] 146) := ⟨_, rfl⟩
  obtain ⟨WA, hWA⟩ : ∃ WA, WA = W2.alloc (.cells #[.int .i64 0, .slice none 0 0] 132) := ⟨_, rfl⟩
  have g1 : W1.heap.size = w.heap.size + 1 := by rw [hW1]; simp
  have g2 : W2.heap.size = W1.heap.size + 1 := by rw [hW2]; simp
  have g3 : WA.heap.size = W2.heap.size + 1 := by rw [hWA]; simp
  have k1 : Below w.heap.size w W1 := by rw [hW1]; exact bAlloc (Below.refl _ _) _
  have k2 : Below W1.heap.size W1 W2 := by rw [hW2]; exact bAlloc (Below.refl _ _) _
  have k3 : Below W2.heap.size W2 WA := by rw [hWA]; exact bAlloc (Below.refl _ _) _
  have HR0A := Lib.hid (show RecAt WA w.heap.size 0 none 0 0 from (k3.block _ (by omega)).trans ((k2.block _ (by omega)).trans (by rw [hW1]; show (w.heap.push _)[w.heap.size]? = _; simp)))
  have HEA := Lib.hid (show Ey WA W1.heap.size bs bs 0 from Ey.later (by rw [hW2]; exact Ey.fresh W1 A bs c (Sl.later hs k1) hl hc.1 hc.2) k3)
  have HPA := Lib.hid (show RecAt WA W2.heap.size 0 none 0 0 by rw [hWA]; show (W2.heap.push _)[W2.heap.size]? = _; simp)
  have HBA := Lib.hid (bThen k1 (bThen k2 k3))
  have HW := Lib.hid (show ((w.alloc (.cells #[.int .i64 0, .slice none 0 0] 132)).alloc (.cells #[.slice A bs.length c, .int .i64 0, .int .i64 0] 146)).alloc (.cells #[.int .i64 0, .slice none 0 0] 132) = WA by rw [hWA, hW2, hW1])
  obtain ⟨B, hB⟩ : ∃ B, B = W1.heap.size := ⟨_, rfl⟩
  obtain ⟨P, hP⟩ : ∃ P, P = W2.heap.size := ⟨_, rfl⟩
  have HE1 := Lib.hid (show w.heap.size + 1 + 1 = P by omega)
  have HE2 := Lib.hid (show w.heap.size + 1 = B by omega)
  have hRB : w.heap.size < B := by omega
  have hBP : B < P := by omega
  have hPz : P < WA.heap.size := by omega
  rw [← hB] at HEA
  rw [← hP] at HPA
  have HT1 := Lib.hid (enum_all WA B bs bs 0 HEA.out)
  rw [HX.out] at HT1
  clear hB hP k1 k2 k3 g1 g2 g3 hWA hW2 hW1
  go_enter Tryd.func82, Tryd.ntmps82
  go_wp2_with fail
  rw [HW.out, HE1.out, HE2.out]
  refine HT1.out.mono ?_
  rintro e w2 ⟨rfl, hr2, ho2⟩
  try dsimp only at hr2
  have hz2 := ho2.size
  have HP2 := Lib.hid (show RecAt w2 P 0 none 0 0 from (ho2.block _ (by omega) (by omega)).trans HPA.out)
  obtain ⟨p0, p1, q0, q1, _⟩ := two_cell HP2.out
  obtain ⟨WB, hWB⟩ : ∃ WB, WB = w2.setCell ⟨P, 0, none⟩ (.int .i64 0) := ⟨_, rfl⟩
  have hzB : WB.heap.size = w2.heap.size := by rw [hWB]; simp [World.setCell]
  have HPB := Lib.hid (show RecAt WB P 0 none 0 0 by rw [hWB]; exact two_set0 HP2.out)
  have HEB := Lib.hid (show Ey WB B bs l1 f1 by rw [hWB]; exact hr2.keep (fun k hk => Below.heap_setCell _ _ _ _ (show k ≠ P by omega)))
  have HR0B := Lib.hid (show RecAt WB w.heap.size 0 none 0 0 by rw [hWB]; exact (Below.heap_setCell _ _ _ _ (show w.heap.size ≠ P by omega)).trans ((ho2.block _ (by omega) (by omega)).trans HR0A.out))
  have HBB := Lib.hid (show Below w.heap.size w WB by rw [hWB]; exact bSet (HBA.out.trans (ho2.below (by omega) (by omega))) (p := ⟨P, 0, none⟩) (show w.heap.size ≤ P by omega) _)
  have HWB := Lib.hid hWB
  obtain ⟨b0, b1, b2, b3, _⟩ := two_cell HPB.out
  have n1 : ¬ B = P := by omega
  have n2 : ¬ P = B := by omega
  have n3 : ¬ w.heap.size = P := by omega
  have n4 : ¬ P = w.heap.size := by omega
  have n5 : ¬ w.heap.size = B := by omega
  have n6 : ¬ B = w.heap.size := by omega
  clear hWB ho2 HT1
  have HT2 := Lib.hid (eops_c WB B bs l1 f1 HEB.out hl1)
  rw [HY.out] at HT2
  go_wp2_with fail
  rw [← HWB.out]
  try go_wp2_with fail
  refine HT2.out.mono ?_
  rintro e w3 ⟨A3, c3, rfl, ho3, hr3, hon3⟩
  try dsimp only at ho3 hr3
  have hz3 := hon3.size
  have HP3 := Lib.hid (show RecAt w3 P 0 none 0 0 from (hon3.block _ (by omega) (by omega)).trans HPB.out)
  obtain ⟨p0, p1, q0, q1, _⟩ := two_cell HP3.out
  obtain ⟨W4, hW4⟩ : ∃ W4, W4 = w3.setCell ⟨P, 1, none⟩ (.slice A3 ps.length c3) := ⟨_, rfl⟩
  have hz4 : W4.heap.size = w3.heap.size := by rw [hW4]; simp [World.setCell]
  have HP4 := Lib.hid (show RecAt W4 P 0 A3 ps.length c3 by rw [hW4]; exact two_set1 HP3.out)
  have HE4 := Lib.hid (show Ey W4 B bs (ch :: tl) 0 by rw [hW4]; exact hr3.keep (fun k hk => Below.heap_setCell _ _ _ _ (show k ≠ P by omega)))
  have HR04 := Lib.hid (show RecAt W4 w.heap.size 0 none 0 0 by rw [hW4]; exact (Below.heap_setCell _ _ _ _ (show w.heap.size ≠ P by omega)).trans ((hon3.block _ (by omega) (by omega)).trans HR0B.out))
  have HO4 := Lib.hid (show Sl (fun b => P < b ∧ b < W4.heap.size) W4 3 A3 ps.length (opCells ps) by rw [hz4, hW4]; exact (Sl.of_own w3 ho3).keep (fun b hb => ⟨by omega, hb.2⟩) (fun b hb => Below.heap_setCell _ _ _ _ (show b ≠ P by omega)))
  have HB4 := Lib.hid (show Below w.heap.size w W4 by rw [hW4]; exact bSet (HBB.out.trans (hon3.below (by omega) (by omega))) (p := ⟨P, 1, none⟩) (show w.heap.size ≤ P by omega) _)
  have HW4 := Lib.hid hW4
  obtain ⟨A5, c5, a5, t0, t1, t2, t3, t4, t5⟩ := hr3
  obtain ⟨r0, r1, r2, r3, r4⟩ := two_cell ((hon3.block w.heap.size (by omega) (by omega)).trans HR0B.out)
  have HC4 := Lib.hid (show W4.heap[B]? = some (.cells #[.slice A5 bs.length c5, .int .i64 (a5 : Nat), .int .i64 0] 146 (0, 0)) by rw [hW4]; exact (Below.heap_setCell _ _ _ _ (show B ≠ P by omega)).trans t0)
  clear hW4 ho3 hon3 HT2
  have hPW : P < W4.heap.size := by omega
  obtain ⟨s0, s1, s2, s3, s4, s5, s6⟩ := three_cell t0
  have hlen := congrArg List.length t2
  rw [List.length_drop, List.length_cons] at hlen
  have d1 : decide (a5 < bs.length) = true := decide_eq_true (by omega)
  clear hlen
  have HBb := Lib.hid (show Below w.heap.size w (w3.setCell ⟨P, 1, none⟩ (.slice A3 ps.length c3)) by rw [← HW4.out]; exact HB4.out)
  have HRb := Lib.hid (show RecAt (w3.setCell ⟨P, 1, none⟩ (.slice A3 ps.length c3)) w.heap.size 0 none 0 0 by rw [← HW4.out]; exact HR04.out)
  go_wp2_with fail
  go_region
  go_wp2
  have hrw : RecAt ((w3.setCell ⟨P, 1, none⟩ (.slice A3 ps.length c3)).setCell ⟨B, 2, none⟩ (.int .i64 4)) w.heap.size 0 none 0 0 := (Below.heap_setCell _ _ _ _ (show w.heap.size ≠ B by omega)).trans HRb.out
  have z0 := (two_cell (two_set0 (x := .int .i64 0) hrw)).1
  have z1 := (two_cell (two_set1 (x := .slice none 0 0) (two_set0 (x := .int .i64 0) hrw))).2.1
  refine bodyPost_ret (v := .tuple #[.agg #[.int .i64 0, .slice none 0 0], .int .i64 4]) (by simp [results, Tryd.results82, go_sem, z0, z1]) rfl ?_
  exact ⟨none, 0, rfl, Sl.nil, by repeat (first | exact HBb.out | apply Below.drew | apply bSet | exact Nat.le_refl _ | exact Nat.le_of_lt hRB)⟩
set_option maxHeartbeats 2000000 in
theorem RecordOf_zf (w : World) (A : Option Addr) (c : Nat) (bs : List UInt8) (hs : Sl (· < w.heap.size) w 1 A bs.length (bs.map byteV)) (hc : bs.length ≤ c ∧ c ≤ 9223372036854775807) (hl : bs.length ≤ 50000) (HT : Hid (Tabs w)) (l1 : List UInt8) (f1 : Int) (hl1 : l1.length ≤ 50000) (ps : List PartD)
    (HX : Hid (readNum bs 0 = (0, l1, f1))) (HY : Hid (readOp l1 f1 = (ps, [], 0))) (HP : Hid (ps.length ≤ 1048576 ∧ ∀ p ∈ ps, p.text.size ≤ 1048576)) (er : Int) (HF : Hid (recordFault 0 ps = er)) (_er0 : (er == 0) = false) :
    Calls Tryd.prog 82 #[.slice A bs.length c] w (RetRec w 0 [] er) := by
  have e0 : decide ((50000 : Int) < (bs.length : Int)) = false := by simp; omega
  obtain ⟨W1, hW1⟩ : ∃ W1, W1 = w.alloc (.cells #[.int .i64 0, .slice none 0 0] 132) := ⟨_, rfl⟩
  obtain ⟨W2, hW2⟩ : ∃ W2, W2 = W1.alloc (.cells #[.slice A bs.length c, .int .i64 0, .int .i64 0] 146) := ⟨_, rfl⟩
  obtain ⟨WA, hWA⟩ : ∃ WA, WA = W2.alloc (.cells #[.int .i64 0, .slice none 0 0] 132) := ⟨_, rfl⟩
  have g1 : W1.heap.size = w.heap.size + 1 := by rw [hW1]; simp
  have g2 : W2.heap.size = W1.heap.size + 1 := by rw [hW2]; simp
  have g3 : WA.heap.size = W2.heap.size + 1 := by rw [hWA]; simp
  have k1 : Below w.heap.size w W1 := by rw [hW1]; exact bAlloc (Below.refl _ _) _
  have k2 : Below W1.heap.size W1 W2 := by rw [hW2]; exact bAlloc (Below.refl _ _) _
  have k3 : Below W2.heap.size W2 WA := by rw [hWA]; exact bAlloc (Below.refl _ _) _
  have HR0A := Lib.hid (show RecAt WA w.heap.size 0 none 0 0 from (k3.block _ (by omega)).trans ((k2.block _ (by omega)).trans (by rw [hW1]; show (w.heap.push _)[w.heap.size]? = _; simp)))
  have HEA := Lib.hid (show Ey WA W1.heap.size bs bs 0 from Ey.later (by rw [hW2]; exact Ey.fresh W1 A bs c (Sl.later hs k1) hl hc.1 hc.2) k3)
  have HPA := Lib.hid (show RecAt WA W2.heap.size 0 none 0 0 by rw [hWA]; show (W2.heap.push _)[W2.heap.size]? = _; simp)
  have HBA := Lib.hid (bThen k1 (bThen k2 k3))
  have HW := Lib.hid (show ((w.alloc (.cells #[.int .i64 0, .slice none 0 0] 132)).alloc (.cells #[.slice A bs.length c, .int .i64 0, .int .i64 0] 146)).alloc (.cells #[.int .i64 0, .slice none 0 0] 132) = WA by rw [hWA, hW2, hW1])
  obtain ⟨B, hB⟩ : ∃ B, B = W1.heap.size := ⟨_, rfl⟩
  obtain ⟨P, hP⟩ : ∃ P, P = W2.heap.size := ⟨_, rfl⟩
  have HE1 := Lib.hid (show w.heap.size + 1 + 1 = P by omega)
  have HE2 := Lib.hid (show w.heap.size + 1 = B by omega)
  have hRB : w.heap.size < B := by omega
  have hBP : B < P := by omega
  have hPz : P < WA.heap.size := by omega
  rw [← hB] at HEA
  rw [← hP] at HPA
  have HT1 := Lib.hid (enum_all WA B bs bs 0 HEA.out)
  rw [HX.out] at HT1
  clear hB hP k1 k2 k3 g1 g2 g3 hWA hW2 hW1
  go_enter Tryd.func82, Tryd.ntmps82
  go_wp2_with fail
  rw [HW.out, HE1.out, HE2.out]
  refine HT1.out.mono ?_
  rintro e w2 ⟨rfl, hr2, ho2⟩
  try dsimp only at hr2
  have hz2 := ho2.size
  have HP2 := Lib.hid (show RecAt w2 P 0 none 0 0 from (ho2.block _ (by omega) (by omega)).trans HPA.out)
  obtain ⟨p0, p1, q0, q1, _⟩ := two_cell HP2.out
  obtain ⟨WB, hWB⟩ : ∃ WB, WB = w2.setCell ⟨P, 0, none⟩ (.int .i64 0) := ⟨_, rfl⟩
  have hzB : WB.heap.size = w2.heap.size := by rw [hWB]; simp [World.setCell]
  have HPB := Lib.hid (show RecAt WB P 0 none 0 0 by rw [hWB]; exact two_set0 HP2.out)
  have HEB := Lib.hid (show Ey WB B bs l1 f1 by rw [hWB]; exact hr2.keep (fun k hk => Below.heap_setCell _ _ _ _ (show k ≠ P by omega)))
  have HR0B := Lib.hid (show RecAt WB w.heap.size 0 none 0 0 by rw [hWB]; exact (Below.heap_setCell _ _ _ _ (show w.heap.size ≠ P by omega)).trans ((ho2.block _ (by omega) (by omega)).trans HR0A.out))
  have HBB := Lib.hid (show Below w.heap.size w WB by rw [hWB]; exact bSet (HBA.out.trans (ho2.below (by omega) (by omega))) (p := ⟨P, 0, none⟩) (show w.heap.size ≤ P by omega) _)
  have HWB := Lib.hid hWB
  obtain ⟨b0, b1, b2, b3, _⟩ := two_cell HPB.out
  have n1 : ¬ B = P := by omega
  have n2 : ¬ P = B := by omega
  have n3 : ¬ w.heap.size = P := by omega
  have n4 : ¬ P = w.heap.size := by omega
  have n5 : ¬ w.heap.size = B := by omega
  have n6 : ¬ B = w.heap.size := by omega
  clear hWB ho2 HT1
  have HT2 := Lib.hid (eops_c WB B bs l1 f1 HEB.out hl1)
  rw [HY.out] at HT2
  go_wp2_with fail
  rw [← HWB.out]
  try go_wp2_with fail
  refine HT2.out.mono ?_
  rintro e w3 ⟨A3, c3, rfl, ho3, hr3, hon3⟩
  try dsimp only at ho3 hr3
  have hz3 := hon3.size
  have HP3 := Lib.hid (show RecAt w3 P 0 none 0 0 from (hon3.block _ (by omega) (by omega)).trans HPB.out)
  obtain ⟨p0, p1, q0, q1, _⟩ := two_cell HP3.out
  obtain ⟨W4, hW4⟩ : ∃ W4, W4 = w3.setCell ⟨P, 1, none⟩ (.slice A3 ps.length c3) := ⟨_, rfl⟩
  have hz4 : W4.heap.size = w3.heap.size := by rw [hW4]; simp [World.setCell]
  have HP4 := Lib.hid (show RecAt W4 P 0 A3 ps.length c3 by rw [hW4]; exact two_set1 HP3.out)
  have HE4 := Lib.hid (show Ey W4 B bs [] 0 by rw [hW4]; exact hr3.keep (fun k hk => Below.heap_setCell _ _ _ _ (show k ≠ P by omega)))
  have HR04 := Lib.hid (show RecAt W4 w.heap.size 0 none 0 0 by rw [hW4]; exact (Below.heap_setCell _ _ _ _ (show w.heap.size ≠ P by omega)).trans ((hon3.block _ (by omega) (by omega)).trans HR0B.out))
  have HO4 := Lib.hid (show Sl (fun b => P < b ∧ b < W4.heap.size) W4 3 A3 ps.length (opCells ps) by rw [hz4, hW4]; exact (Sl.of_own w3 ho3).keep (fun b hb => ⟨by omega, hb.2⟩) (fun b hb => Below.heap_setCell _ _ _ _ (show b ≠ P by omega)))
  have HB4 := Lib.hid (show Below w.heap.size w W4 by rw [hW4]; exact bSet (HBB.out.trans (hon3.below (by omega) (by omega))) (p := ⟨P, 1, none⟩) (show w.heap.size ≤ P by omega) _)
  have HW4 := Lib.hid hW4
  obtain ⟨A5, c5, a5, t0, t1, t2, t3, t4, t5⟩ := hr3
  obtain ⟨r0, r1, r2, r3, r4⟩ := two_cell ((hon3.block w.heap.size (by omega) (by omega)).trans HR0B.out)
  have HC4 := Lib.hid (show W4.heap[B]? = some (.cells #[.slice A5 bs.length c5, .int .i64 (a5 : Nat), .int .i64 0] 146 (0, 0)) by rw [hW4]; exact (Below.heap_setCell _ _ _ _ (show B ≠ P by omega)).trans t0)
  clear hW4 ho3 hon3 HT2
  have hPW : P < W4.heap.size := by omega
  obtain ⟨s0, s1, s2, s3, s4, s5, s6⟩ := three_cell t0
  have hlen := congrArg List.length t2
  rw [List.length_drop, List.length_nil] at hlen
  obtain rfl : a5 = bs.length := by omega
  clear hlen
  have HBb := Lib.hid (show Below w.heap.size w (w3.setCell ⟨P, 1, none⟩ (.slice A3 ps.length c3)) by rw [← HW4.out]; exact HB4.out)
  have HRb := Lib.hid (show RecAt (w3.setCell ⟨P, 1, none⟩ (.slice A3 ps.length c3)) w.heap.size 0 none 0 0 by rw [← HW4.out]; exact HR04.out)
  have HC6 := Lib.hid (RecordFault_c W4 0 A3 c3 ps (HT.out.later HB4.out) (HO4.out.keep (fun b hb => hb.2) (fun _ _ => rfl)) HP.out.1 HP.out.2)
  rw [HF.out] at HC6
  go_wp2_with fail
  rw [← HW4.out]
  refine HC6.out.mono ?_
  rintro e w6 ⟨rfl, hb6⟩
  have hz6 := hb6.size
  have HB6 := Lib.hid hb6
  obtain ⟨r0, r1, r2, r3, r4⟩ := two_cell ((hb6.block _ (by omega)).trans HR04.out)
  obtain ⟨v0, v1, v2, v3, v4⟩ := two_cell ((hb6.block _ (by omega)).trans HP4.out)
  obtain ⟨y0, y1, y2, y3, y4, y5, y6⟩ := three_cell ((hb6.block _ (by omega)).trans HC4.out)
  clear hb6 HC6
  go_wp2_with fail
  go_region
  go_wp2
  have hrw : RecAt (w6.setCell ⟨B, 2, none⟩ (.int .i64 er)) w.heap.size 0 none 0 0 := (Below.heap_setCell _ _ _ _ (show w.heap.size ≠ B by omega)).trans ((HB6.out.block _ (by omega)).trans HR04.out)
  have z0 := (two_cell (two_set0 (x := .int .i64 0) hrw)).1
  have z1 := (two_cell (two_set1 (x := .slice none 0 0) (two_set0 (x := .int .i64 0) hrw))).2.1
  refine bodyPost_ret (v := .tuple #[.agg #[.int .i64 0, .slice none 0 0], .int .i64 er]) (by simp [results, Tryd.results82, go_sem, z0, z1]) rfl ?_
  exact ⟨none, 0, rfl, Sl.nil, by repeat (first | exact bThen HB4.out HB6.out | apply Below.drew | apply bSet | exact Nat.le_refl _ | exact Nat.le_of_lt hRB)⟩
set_option maxHeartbeats 2000000 in
theorem RecordOf_zo (w : World) (A : Option Addr) (c : Nat) (bs : List UInt8) (hs : Sl (· < w.heap.size) w 1 A bs.length (bs.map byteV)) (hc : bs.length ≤ c ∧ c ≤ 9223372036854775807) (hl : bs.length ≤ 50000) (HT : Hid (Tabs w)) (l1 : List UInt8) (f1 : Int) (hl1 : l1.length ≤ 50000) (ps : List PartD)
    (HX : Hid (readNum bs 0 = (0, l1, f1))) (HY : Hid (readOp l1 f1 = (ps, [], 0))) (HP : Hid (ps.length ≤ 1048576 ∧ ∀ p ∈ ps, p.text.size ≤ 1048576)) (HF : Hid (recordFault 0 ps = 0)) :
    Calls Tryd.prog 82 #[.slice A bs.length c] w (RetRec w 0 ps 0) := by
  have e0 : decide ((50000 : Int) < (bs.length : Int)) = false := by simp; omega
  obtain ⟨W1, hW1⟩ : ∃ W1, W1 = w.alloc (.cells #[.int .i64 0, .slice none 0 0] 132) := ⟨_, rfl⟩
  obtain ⟨W2, hW2⟩ : ∃ W2, W2 = W1.alloc (.cells #[.slice A bs.length c, .int .i64 0, .int .i64 0] 146) := ⟨_, rfl⟩
  obtain ⟨WA, hWA⟩ : ∃ WA, WA = W2.alloc (.cells #[.int .i64 0, .slice none 0 0] 132) := ⟨_, rfl⟩
  have g1 : W1.heap.size = w.heap.size + 1 := by rw [hW1]; simp
  have g2 : W2.heap.size = W1.heap.size + 1 := by rw [hW2]; simp
  have g3 : WA.heap.size = W2.heap.size + 1 := by rw [hWA]; simp
  have k1 : Below w.heap.size w W1 := by rw [hW1]; exact bAlloc (Below.refl _ _) _
  have k2 : Below W1.heap.size W1 W2 := by rw [hW2]; exact bAlloc (Below.refl _ _) _
  have k3 : Below W2.heap.size W2 WA := by rw [hWA]; exact bAlloc (Below.refl _ _) _
  have HR0A := Lib.hid (show RecAt WA w.heap.size 0 none 0 0 from (k3.block _ (by omega)).trans ((k2.block _ (by omega)).trans (by rw [hW1]; show (w.heap.push _)[w.heap.size]? = _; simp)))
  have HEA := Lib.hid (show Ey WA W1.heap.size bs bs 0 from Ey.later (by rw [hW2]; exact Ey.fresh W1 A bs c (Sl.later hs k1) hl hc.1 hc.2) k3)
  have HPA := Lib.hid (show RecAt WA W2.heap.size 0 none 0 0 by rw [hWA]; show (W2.heap.push _)[W2.heap.size]? = _; simp)
  have HBA := Lib.hid (bThen k1 (bThen k2 k3))
  have HW := Lib.hid (show ((w.alloc (.cells #[.int .i64 0, .slice none 0 0] 132)).alloc (.cells #[.slice A bs.length c, .int .i64 0, .int .i64 0] 146)).alloc (.cells #[.int .i64 0, .slice none 0 0] 132) = WA by rw [hWA, hW2, hW1])
  obtain ⟨B, hB⟩ : ∃ B, B = W1.heap.size := ⟨_, rfl⟩
  obtain ⟨P, hP⟩ : ∃ P, P = W2.heap.size := ⟨_, rfl⟩
  have HE1 := Lib.hid (show w.heap.size + 1 + 1 = P by omega)
  have HE2 := Lib.hid (show w.heap.size + 1 = B by omega)
  have hRB : w.heap.size < B := by omega
  have hBP : B < P := by omega
  have hPz : P < WA.heap.size := by omega
  rw [← hB] at HEA
  rw [← hP] at HPA
  have HT1 := Lib.hid (enum_all WA B bs bs 0 HEA.out)
  rw [HX.out] at HT1
  clear hB hP k1 k2 k3 g1 g2 g3 hWA hW2 hW1
  go_enter Tryd.func82, Tryd.ntmps82
  go_wp2_with fail
  rw [HW.out, HE1.out, HE2.out]
  refine HT1.out.mono ?_
  rintro e w2 ⟨rfl, hr2, ho2⟩
  try dsimp only at hr2
  have hz2 := ho2.size
  have HP2 := Lib.hid (show RecAt w2 P 0 none 0 0 from (ho2.block _ (by omega) (by omega)).trans HPA.out)
  obtain ⟨p0, p1, q0, q1, _⟩ := two_cell HP2.out
  obtain ⟨WB, hWB⟩ : ∃ WB, WB = w2.setCell ⟨P, 0, none⟩ (.int .i64 0) := ⟨_, rfl⟩
  have hzB : WB.heap.size = w2.heap.size := by rw [hWB]; simp [World.setCell]
  have HPB := Lib.hid (show RecAt WB P 0 none 0 0 by rw [hWB]; exact two_set0 HP2.out)
  have HEB := Lib.hid (show Ey WB B bs l1 f1 by rw [hWB]; exact hr2.keep (fun k hk => Below.heap_setCell _ _ _ _ (show k ≠ P by omega)))
  have HR0B := Lib.hid (show RecAt WB w.heap.size 0 none 0 0 by rw [hWB]; exact (Below.heap_setCell _ _ _ _ (show w.heap.size ≠ P by omega)).trans ((ho2.block _ (by omega) (by omega)).trans HR0A.out))
  have HBB := Lib.hid (show Below w.heap.size w WB by rw [hWB]; exact bSet (HBA.out.trans (ho2.below (by omega) (by omega))) (p := ⟨P, 0, none⟩) (show w.heap.size ≤ P by omega) _)
  have HWB := Lib.hid hWB
  obtain ⟨b0, b1, b2, b3, _⟩ := two_cell HPB.out
  have n1 : ¬ B = P := by omega
  have n2 : ¬ P = B := by omega
  have n3 : ¬ w.heap.size = P := by omega
  have n4 : ¬ P = w.heap.size := by omega
  have n5 : ¬ w.heap.size = B := by omega
  have n6 : ¬ B = w.heap.size := by omega
  clear hWB ho2 HT1
  have HT2 := Lib.hid (eops_c WB B bs l1 f1 HEB.out hl1)
  rw [HY.out] at HT2
  go_wp2_with fail
  rw [← HWB.out]
  try go_wp2_with fail
  refine HT2.out.mono ?_
  rintro e w3 ⟨A3, c3, rfl, ho3, hr3, hon3⟩
  try dsimp only at ho3 hr3
  have hz3 := hon3.size
  have HP3 := Lib.hid (show RecAt w3 P 0 none 0 0 from (hon3.block _ (by omega) (by omega)).trans HPB.out)
  obtain ⟨p0, p1, q0, q1, _⟩ := two_cell HP3.out
  obtain ⟨W4, hW4⟩ : ∃ W4, W4 = w3.setCell ⟨P, 1, none⟩ (.slice A3 ps.length c3) := ⟨_, rfl⟩
  have hz4 : W4.heap.size = w3.heap.size := by rw [hW4]; simp [World.setCell]
  have HP4 := Lib.hid (show RecAt W4 P 0 A3 ps.length c3 by rw [hW4]; exact two_set1 HP3.out)
  have HE4 := Lib.hid (show Ey W4 B bs [] 0 by rw [hW4]; exact hr3.keep (fun k hk => Below.heap_setCell _ _ _ _ (show k ≠ P by omega)))
  have HR04 := Lib.hid (show RecAt W4 w.heap.size 0 none 0 0 by rw [hW4]; exact (Below.heap_setCell _ _ _ _ (show w.heap.size ≠ P by omega)).trans ((hon3.block _ (by omega) (by omega)).trans HR0B.out))
  have HO4 := Lib.hid (show Sl (fun b => P < b ∧ b < W4.heap.size) W4 3 A3 ps.length (opCells ps) by rw [hz4, hW4]; exact (Sl.of_own w3 ho3).keep (fun b hb => ⟨by omega, hb.2⟩) (fun b hb => Below.heap_setCell _ _ _ _ (show b ≠ P by omega)))
  have HB4 := Lib.hid (show Below w.heap.size w W4 by rw [hW4]; exact bSet (HBB.out.trans (hon3.below (by omega) (by omega))) (p := ⟨P, 1, none⟩) (show w.heap.size ≤ P by omega) _)
  have HW4 := Lib.hid hW4
  obtain ⟨A5, c5, a5, t0, t1, t2, t3, t4, t5⟩ := hr3
  obtain ⟨r0, r1, r2, r3, r4⟩ := two_cell ((hon3.block w.heap.size (by omega) (by omega)).trans HR0B.out)
  have HC4 := Lib.hid (show W4.heap[B]? = some (.cells #[.slice A5 bs.length c5, .int .i64 (a5 : Nat), .int .i64 0] 146 (0, 0)) by rw [hW4]; exact (Below.heap_setCell _ _ _ _ (show B ≠ P by omega)).trans t0)
  clear hW4 ho3 hon3 HT2
  have hPW : P < W4.heap.size := by omega
  obtain ⟨s0, s1, s2, s3, s4, s5, s6⟩ := three_cell t0
  have hlen := congrArg List.length t2
  rw [List.length_drop, List.length_nil] at hlen
  obtain rfl : a5 = bs.length := by omega
  clear hlen
  have HBb := Lib.hid (show Below w.heap.size w (w3.setCell ⟨P, 1, none⟩ (.slice A3 ps.length c3)) by rw [← HW4.out]; exact HB4.out)
  have HRb := Lib.hid (show RecAt (w3.setCell ⟨P, 1, none⟩ (.slice A3 ps.length c3)) w.heap.size 0 none 0 0 by rw [← HW4.out]; exact HR04.out)
  have HC6 := Lib.hid (RecordFault_c W4 0 A3 c3 ps (HT.out.later HB4.out) (HO4.out.keep (fun b hb => hb.2) (fun _ _ => rfl)) HP.out.1 HP.out.2)
  rw [HF.out] at HC6
  go_wp2_with fail
  rw [← HW4.out]
  refine HC6.out.mono ?_
  rintro e w6 ⟨rfl, hb6⟩
  have hz6 := hb6.size
  have HB6 := Lib.hid hb6
  obtain ⟨r0, r1, r2, r3, r4⟩ := two_cell ((hb6.block _ (by omega)).trans HR04.out)
  obtain ⟨v0, v1, v2, v3, v4⟩ := two_cell ((hb6.block _ (by omega)).trans HP4.out)
  obtain ⟨y0, y1, y2, y3, y4, y5, y6⟩ := three_cell ((hb6.block _ (by omega)).trans HC4.out)
  clear hb6 HC6
  go_wp2_with fail
  have hrw : RecAt (w6.setCell ⟨B, 2, none⟩ (.int .i64 0)) w.heap.size 0 none 0 0 := (Below.heap_setCell _ _ _ _ (show w.heap.size ≠ B by omega)).trans ((HB6.out.block _ (by omega)).trans HR04.out)
  have z0 := (two_cell (two_set0 (x := .int .i64 0) hrw)).1
  have z1 := (two_cell (two_set1 (x := .slice A3 ps.length c3) (two_set0 (x := .int .i64 0) hrw))).2.1
  refine bodyPost_ret (v := .tuple #[.agg #[.int .i64 0, .slice A3 ps.length c3], .int .i64 0]) (by simp [results, Tryd.results82, go_sem, z0, z1]) rfl ?_
  refine ⟨A3, c3, rfl, ?_, by repeat (first | exact bThen HB4.out HB6.out | apply Below.drew | apply bSet | exact Nat.le_refl _ | exact Nat.le_of_lt hRB)⟩
  exact ((HO4.out.keep (S' := fun b => P < b ∧ b < W4.heap.size) (fun _ hb => hb) (fun b hb => HB6.out.block b (by omega))).keep (fun b hb => by simp [World.setCell]; omega) (fun b hb => ((Below.heap_setCell _ _ _ _ (show b ≠ w.heap.size by omega)).trans (Below.heap_setCell _ _ _ _ (show b ≠ w.heap.size by omega))).trans (Below.heap_setCell _ _ _ _ (show b ≠ B by omega))))
set_option maxHeartbeats 2000000 in
theorem RecordOf_na (w : World) (A : Option Addr) (c : Nat) (bs : List UInt8) (hs : Sl (· < w.heap.size) w 1 A bs.length (bs.map byteV)) (hc : bs.length ≤ c ∧ c ≤ 9223372036854775807) (hl : bs.length ≤ 50000) (_HT : Hid (Tabs w)) (f2 : Int) (_f0 : (f2 == 0) = false) (l2 : List UInt8) (ep : Int) (_e1 : (ep == 0) = false)
    (HX : Hid (readNum bs 0 = (ep, l2, f2))) :
    Calls Tryd.prog 82 #[.slice A bs.length c] w (RetRec w 0 [] f2) := by
  have e0 : decide ((50000 : Int) < (bs.length : Int)) = false := by simp; omega
  obtain ⟨W1, hW1⟩ : ∃ W1, W1 = w.alloc (.cells #[.int .i64 0, .slice none 0 0] 132) := ⟨_, rfl⟩
  obtain ⟨W2, hW2⟩ : ∃ W2, W2 = W1.alloc (.cells #[.slice A bs.length c, .int .i64 0, .int .i64 0] 146) := ⟨_, rfl⟩
  obtain ⟨WA, hWA⟩ : ∃ WA, WA = W2.alloc (.cells #[.int .i64 0, .slice none 0 0] 132) := ⟨_, rfl⟩
  have g1 : W1.heap.size = w.heap.size + 1 := by rw [hW1]; simp
  have g2 : W2.heap.size = W1.heap.size + 1 := by rw [hW2]; simp
  have g3 : WA.heap.size = W2.heap.size + 1 := by rw [hWA]; simp
  have k1 : Below w.heap.size w W1 := by rw [hW1]; exact bAlloc (Below.refl _ _) _
  have k2 : Below W1.heap.size W1 W2 := by rw [hW2]; exact bAlloc (Below.refl _ _) _
  have k3 : Below W2.heap.size W2 WA := by rw [hWA]; exact bAlloc (Below.refl _ _) _
  have HR0A := Lib.hid (show RecAt WA w.heap.size 0 none 0 0 from (k3.block _ (by omega)).trans ((k2.block _ (by omega)).trans (by rw [hW1]; show (w.heap.push _)[w.heap.size]? = _; simp)))
  have HEA := Lib.hid (show Ey WA W1.heap.size bs bs 0 from Ey.later (by rw [hW2]; exact Ey.fresh W1 A bs c (Sl.later hs k1) hl hc.1 hc.2) k3)
  have HPA := Lib.hid (show RecAt WA W2.heap.size 0 none 0 0 by rw [hWA]; show (W2.heap.push _)[W2.heap.size]? = _; simp)
  have HBA := Lib.hid (bThen k1 (bThen k2 k3))
  have HW := Lib.hid (show ((w.alloc (.cells #[.int .i64 0, .slice none 0 0] 132)).alloc (.cells #[.slice A bs.length c, .int .i64 0, .int .i64 0] 146)).alloc (.cells #[.int .i64 0, .slice none 0 0] 132) = WA by rw [hWA, hW2, hW1])
  obtain ⟨B, hB⟩ : ∃ B, B = W1.heap.size := ⟨_, rfl⟩
  obtain ⟨P, hP⟩ : ∃ P, P = W2.heap.size := ⟨_, rfl⟩
  have HE1 := Lib.hid (show w.heap.size + 1 + 1 = P by omega)
  have HE2 := Lib.hid (show w.heap.size + 1 = B by omega)
  have hRB : w.heap.size < B := by omega
  have hBP : B < P := by omega
  have hPz : P < WA.heap.size := by omega
  rw [← hB] at HEA
  rw [← hP] at HPA
  have HT1 := Lib.hid (enum_all WA B bs bs 0 HEA.out)
  rw [HX.out] at HT1
  clear hB hP k1 k2 k3 g1 g2 g3 hWA hW2 hW1
  go_enter Tryd.func82, Tryd.ntmps82
  go_wp2_with fail
  rw [HW.out, HE1.out, HE2.out]
  refine HT1.out.mono ?_
  rintro e w2 ⟨rfl, hr2, ho2⟩
  try dsimp only at hr2
  have hz2 := ho2.size
  have HP2 := Lib.hid (show RecAt w2 P 0 none 0 0 from (ho2.block _ (by omega) (by omega)).trans HPA.out)
  obtain ⟨p0, p1, q0, q1, _⟩ := two_cell HP2.out
  obtain ⟨WB, hWB⟩ : ∃ WB, WB = w2.setCell ⟨P, 0, none⟩ (.int .i64 ep) := ⟨_, rfl⟩
  have hzB : WB.heap.size = w2.heap.size := by rw [hWB]; simp [World.setCell]
  have HPB := Lib.hid (show RecAt WB P ep none 0 0 by rw [hWB]; exact two_set0 HP2.out)
  have HEB := Lib.hid (show Ey WB B bs l2 f2 by rw [hWB]; exact hr2.keep (fun k hk => Below.heap_setCell _ _ _ _ (show k ≠ P by omega)))
  have HR0B := Lib.hid (show RecAt WB w.heap.size 0 none 0 0 by rw [hWB]; exact (Below.heap_setCell _ _ _ _ (show w.heap.size ≠ P by omega)).trans ((ho2.block _ (by omega) (by omega)).trans HR0A.out))
  have HBB := Lib.hid (show Below w.heap.size w WB by rw [hWB]; exact bSet (HBA.out.trans (ho2.below (by omega) (by omega))) (p := ⟨P, 0, none⟩) (show w.heap.size ≤ P by omega) _)
  have HWB := Lib.hid hWB
  obtain ⟨b0, b1, b2, b3, _⟩ := two_cell HPB.out
  have n1 : ¬ B = P := by omega
  have n2 : ¬ P = B := by omega
  have n3 : ¬ w.heap.size = P := by omega
  have n4 : ¬ P = w.heap.size := by omega
  have n5 : ¬ w.heap.size = B := by omega
  have n6 : ¬ B = w.heap.size := by omega
  obtain ⟨A5, c5, a5, t0, t1, t2, t3, t4, t5⟩ := hr2
  obtain ⟨r0, r1, r2, r3, r4⟩ := two_cell ((ho2.block w.heap.size (by omega) (by omega)).trans HR0A.out)
  clear hWB ho2 HT1
  obtain ⟨W4, hW4⟩ : ∃ W4, W4 = WB := ⟨_, rfl⟩
  have hz4 : W4.heap.size = WB.heap.size := by rw [hW4]
  have HP4 := Lib.hid (show RecAt W4 P ep none 0 0 by rw [hW4]; exact HPB.out)
  have HE4 := Lib.hid (show Ey W4 B bs l2 f2 by rw [hW4]; exact HEB.out)
  have HR04 := Lib.hid (show RecAt W4 w.heap.size 0 none 0 0 by rw [hW4]; exact HR0B.out)
  have HB4 := Lib.hid (show Below w.heap.size w W4 by rw [hW4]; exact HBB.out)
  have HC4 := Lib.hid (show W4.heap[B]? = some (.cells #[.slice A5 bs.length c5, .int .i64 (a5 : Nat), .int .i64 f2] 146 (0, 0)) by rw [hW4, HWB.out]; exact (Below.heap_setCell _ _ _ _ (show B ≠ P by omega)).trans t0)
  have HW4 := Lib.hid hW4
  clear hW4
  have hPW : P < W4.heap.size := by omega
  obtain ⟨s0, s1, s2, s3, s4, s5, s6⟩ := three_cell t0
  have hlen := congrArg List.length t2
  rw [List.length_drop] at hlen
  clear hlen
  have HBb := Lib.hid (show Below w.heap.size w (w2.setCell ⟨P, 0, none⟩ (.int .i64 ep)) by rw [← HWB.out, ← HW4.out]; exact HB4.out)
  have HRb := Lib.hid (show RecAt (w2.setCell ⟨P, 0, none⟩ (.int .i64 ep)) w.heap.size 0 none 0 0 by rw [← HWB.out, ← HW4.out]; exact HR04.out)
  go_wp2_with fail
  go_region
  go_wp2
  have hrw : RecAt (w2.setCell ⟨P, 0, none⟩ (.int .i64 ep)) w.heap.size 0 none 0 0 := HRb.out
  have z0 := (two_cell (two_set0 (x := .int .i64 0) hrw)).1
  have z1 := (two_cell (two_set1 (x := .slice none 0 0) (two_set0 (x := .int .i64 0) hrw))).2.1
  refine bodyPost_ret (v := .tuple #[.agg #[.int .i64 0, .slice none 0 0], .int .i64 f2]) (by simp [results, Tryd.results82, go_sem, z0, z1]) rfl ?_
  exact ⟨none, 0, rfl, Sl.nil, by repeat (first | exact HBb.out | apply Below.drew | apply bSet | exact Nat.le_refl _ | exact Nat.le_of_lt hRB)⟩
set_option maxHeartbeats 2000000 in
theorem RecordOf_nb (w : World) (A : Option Addr) (c : Nat) (bs : List UInt8) (hs : Sl (· < w.heap.size) w 1 A bs.length (bs.map byteV)) (hc : bs.length ≤ c ∧ c ≤ 9223372036854775807) (hl : bs.length ≤ 50000) (_HT : Hid (Tabs w)) (ch : UInt8) (tl : List UInt8) (ep : Int) (_e1 : (ep == 0) = false)
    (HX : Hid (readNum bs 0 = (ep, (ch :: tl), 0))) :
    Calls Tryd.prog 82 #[.slice A bs.length c] w (RetRec w 0 [] 4) := by
  have e0 : decide ((50000 : Int) < (bs.length : Int)) = false := by simp; omega
  obtain ⟨W1, hW1⟩ : ∃ W1, W1 = w.alloc (.cells #[.int .i64 0, .slice none 0 0] 132) := ⟨_, rfl⟩
  obtain ⟨W2, hW2⟩ : ∃ W2, W2 = W1.alloc (.cells #[.slice A bs.length c, .int .i64 0, .int .i64 0] 146) := ⟨_, rfl⟩
  obtain ⟨WA, hWA⟩ : ∃ WA, WA = W2.alloc (.cells #[.int .i64 0, .slice none 0 0] 132) := ⟨_, rfl⟩
  have g1 : W1.heap.size = w.heap.size + 1 := by rw [hW1]; simp
  have g2 : W2.heap.size = W1.heap.size + 1 := by rw [hW2]; simp
  have g3 : WA.heap.size = W2.heap.size + 1 := by rw [hWA]; simp
  have k1 : Below w.heap.size w W1 := by rw [hW1]; exact bAlloc (Below.refl _ _) _
  have k2 : Below W1.heap.size W1 W2 := by rw [hW2]; exact bAlloc (Below.refl _ _) _
  have k3 : Below W2.heap.size W2 WA := by rw [hWA]; exact bAlloc (Below.refl _ _) _
  have HR0A := Lib.hid (show RecAt WA w.heap.size 0 none 0 0 from (k3.block _ (by omega)).trans ((k2.block _ (by omega)).trans (by rw [hW1]; show (w.heap.push _)[w.heap.size]? = _; simp)))
  have HEA := Lib.hid (show Ey WA W1.heap.size bs bs 0 from Ey.later (by rw [hW2]; exact Ey.fresh W1 A bs c (Sl.later hs k1) hl hc.1 hc.2) k3)
  have HPA := Lib.hid (show RecAt WA W2.heap.size 0 none 0 0 by rw [hWA]; show (W2.heap.push _)[W2.heap.size]? = _; simp)
  have HBA := Lib.hid (bThen k1 (bThen k2 k3))
  have HW := Lib.hid (show ((w.alloc (.cells #[.int .i64 0, .slice none 0 0] 132)).alloc (.cells #[.slice A bs.length c, .int .i64 0, .int .i64 0] 146)).alloc (.cells #[.int .i64 0, .slice none 0 0] 132) = WA by rw [hWA, hW2, hW1])
  obtain ⟨B, hB⟩ : ∃ B, B = W1.heap.size := ⟨_, rfl⟩
  obtain ⟨P, hP⟩ : ∃ P, P = W2.heap.size := ⟨_, rfl⟩
  have HE1 := Lib.hid (show w.heap.size + 1 + 1 = P by omega)
  have HE2 := Lib.hid (show w.heap.size + 1 = B by omega)
  have hRB : w.heap.size < B := by omega
  have hBP : B < P := by omega
  have hPz : P < WA.heap.size := by omega
  rw [← hB] at HEA
  rw [← hP] at HPA
  have HT1 := Lib.hid (enum_all WA B bs bs 0 HEA.out)
  rw [HX.out] at HT1
  clear hB hP k1 k2 k3 g1 g2 g3 hWA hW2 hW1
  go_enter Tryd.func82, Tryd.ntmps82
  go_wp2_with fail
  rw [HW.out, HE1.out, HE2.out]
  refine HT1.out.mono ?_
  rintro e w2 ⟨rfl, hr2, ho2⟩
  try dsimp only at hr2
  have hz2 := ho2.size
  have HP2 := Lib.hid (show RecAt w2 P 0 none 0 0 from (ho2.block _ (by omega) (by omega)).trans HPA.out)
  obtain ⟨p0, p1, q0, q1, _⟩ := two_cell HP2.out
  obtain ⟨WB, hWB⟩ : ∃ WB, WB = w2.setCell ⟨P, 0, none⟩ (.int .i64 ep) := ⟨_, rfl⟩
  have hzB : WB.heap.size = w2.heap.size := by rw [hWB]; simp [World.setCell]
  have HPB := Lib.hid (show RecAt WB P ep none 0 0 by rw [hWB]; exact two_set0 HP2.out)
  have HEB := Lib.hid (show Ey WB B bs (ch :: tl) 0 by rw [hWB]; exact hr2.keep (fun k hk => Below.heap_setCell _ _ _ _ (show k ≠ P by omega)))
  have HR0B := Lib.hid (show RecAt WB w.heap.size 0 none 0 0 by rw [hWB]; exact (Below.heap_setCell _ _ _ _ (show w.heap.size ≠ P by omega)).trans ((ho2.block _ (by omega) (by omega)).trans HR0A.out))
  have HBB := Lib.hid (show Below w.heap.size w WB by rw [hWB]; exact bSet (HBA.out.trans (ho2.below (by omega) (by omega))) (p := ⟨P, 0, none⟩) (show w.heap.size ≤ P by omega) _)
  have HWB := Lib.hid hWB
  obtain ⟨b0, b1, b2, b3, _⟩ := two_cell HPB.out
  have n1 : ¬ B = P := by omega
  have n2 : ¬ P = B := by omega
  have n3 : ¬ w.heap.size = P := by omega
  have n4 : ¬ P = w.heap.size := by omega
  have n5 : ¬ w.heap.size = B := by omega
  have n6 : ¬ B = w.heap.size := by omega
  obtain ⟨A5, c5, a5, t0, t1, t2, t3, t4, t5⟩ := hr2
  obtain ⟨r0, r1, r2, r3, r4⟩ := two_cell ((ho2.block w.heap.size (by omega) (by omega)).trans HR0A.out)
  clear hWB ho2 HT1
  obtain ⟨W4, hW4⟩ : ∃ W4, W4 = WB := ⟨_, rfl⟩
  have hz4 : W4.heap.size = WB.heap.size := by rw [hW4]
  have HP4 := Lib.hid (show RecAt W4 P ep none 0 0 by rw [hW4]; exact HPB.out)
  have HE4 := Lib.hid (show Ey W4 B bs (ch :: tl) 0 by rw [hW4]; exact HEB.out)
  have HR04 := Lib.hid (show RecAt W4 w.heap.size 0 none 0 0 by rw [hW4]; exact HR0B.out)
  have HB4 := Lib.hid (show Below w.heap.size w W4 by rw [hW4]; exact HBB.out)
  have HC4 := Lib.hid (show W4.heap[B]? = some (.cells #[.slice A5 bs.length c5, .int .i64 (a5 : Nat), .int .i64 0] 146 (0, 0)) by rw [hW4, HWB.out]; exact (Below.heap_setCell _ _ _ _ (show B ≠ P by omega)).trans t0)
  have HW4 := Lib.hid hW4
  clear hW4
  have hPW : P < W4.heap.size := by omega
  obtain ⟨s0, s1, s2, s3, s4, s5, s6⟩ := three_cell t0
  have hlen := congrArg List.length t2
  rw [List.length_drop, List.length_cons] at hlen
  have d1 : decide (a5 < bs.length) = true := decide_eq_true (by omega)
  clear hlen
  have HBb := Lib.hid (show Below w.heap.size w (w2.setCell ⟨P, 0, none⟩ (.int .i64 ep)) by rw [← HWB.out, ← HW4.out]; exact HB4.out)
  have HRb := Lib.hid (show RecAt (w2.setCell ⟨P, 0, none⟩ (.int .i64 ep)) w.heap.size 0 none 0 0 by rw [← HWB.out, ← HW4.out]; exact HR04.out)
  go_wp2_with fail
  go_region
  go_wp2
  have hrw : RecAt ((w2.setCell ⟨P, 0, none⟩ (.int .i64 ep)).setCell ⟨B, 2, none⟩ (.int .i64 4)) w.heap.size 0 none 0 0 := (Below.heap_setCell _ _ _ _ (show w.heap.size ≠ B by omega)).trans HRb.out
  have z0 := (two_cell (two_set0 (x := .int .i64 0) hrw)).1
  have z1 := (two_cell (two_set1 (x := .slice none 0 0) (two_set0 (x := .int .i64 0) hrw))).2.1
  refine bodyPost_ret (v := .tuple #[.agg #[.int .i64 0, .slice none 0 0], .int .i64 4]) (by simp [results, Tryd.results82, go_sem, z0, z1]) rfl ?_
  exact ⟨none, 0, rfl, Sl.nil, by repeat (first | exact HBb.out | apply Below.drew | apply bSet | exact Nat.le_refl _ | exact Nat.le_of_lt hRB)⟩
set_option maxHeartbeats 2000000 in
theorem RecordOf_nf (w : World) (A : Option Addr) (c : Nat) (bs : List UInt8) (hs : Sl (· < w.heap.size) w 1 A bs.length (bs.map byteV)) (hc : bs.length ≤ c ∧ c ≤ 9223372036854775807) (hl : bs.length ≤ 50000) (HT : Hid (Tabs w)) (ep : Int) (_e1 : (ep == 0) = false)
    (HX : Hid (readNum bs 0 = (ep, [], 0))) (er : Int) (HF : Hid (recordFault ep [] = er)) (_er0 : (er == 0) = false) :
    Calls Tryd.prog 82 #[.slice A bs.length c] w (RetRec w 0 [] er) := by
  have e0 : decide ((50000 : Int) < (bs.length : Int)) = false := by simp; omega
  obtain ⟨W1, hW1⟩ : ∃ W1, W1 = w.alloc (.cells #[.int .i64 0, .slice none 0 0] 132) := ⟨_, rfl⟩
  obtain ⟨W2, hW2⟩ : ∃ W2, W2 = W1.alloc (.cells #[.slice A bs.length c, .int .i64 0, .int .i64 0] 146) := ⟨_, rfl⟩
  obtain ⟨WA, hWA⟩ : ∃ WA, WA = W2.alloc (.cells #[.int .i64 0, .slice none 0 0] 132) := ⟨_, rfl⟩
  have g1 : W1.heap.size = w.heap.size + 1 := by rw [hW1]; simp
  have g2 : W2.heap.size = W1.heap.size + 1 := by rw [hW2]; simp
  have g3 : WA.heap.size = W2.heap.size + 1 := by rw [hWA]; simp
  have k1 : Below w.heap.size w W1 := by rw [hW1]; exact bAlloc (Below.refl _ _) _
  have k2 : Below W1.heap.size W1 W2 := by rw [hW2]; exact bAlloc (Below.refl _ _) _
  have k3 : Below W2.heap.size W2 WA := by rw [hWA]; exact bAlloc (Below.refl _ _) _
  have HR0A := Lib.hid (show RecAt WA w.heap.size 0 none 0 0 from (k3.block _ (by omega)).trans ((k2.block _ (by omega)).trans (by rw [hW1]; show (w.heap.push _)[w.heap.size]? = _; simp)))
  have HEA := Lib.hid (show Ey WA W1.heap.size bs bs 0 from Ey.later (by rw [hW2]; exact Ey.fresh W1 A bs c (Sl.later hs k1) hl hc.1 hc.2) k3)
  have HPA := Lib.hid (show RecAt WA W2.heap.size 0 none 0 0 by rw [hWA]; show (W2.heap.push _)[W2.heap.size]? = _; simp)
  have HBA := Lib.hid (bThen k1 (bThen k2 k3))
  have HW := Lib.hid (show ((w.alloc (.cells #[.int .i64 0, .slice none 0 0] 132)).alloc (.cells #[.slice A bs.length c, .int .i64 0, .int .i64 0] 146)).alloc (.cells #[.int .i64 0, .slice none 0 0] 132) = WA by rw [hWA, hW2, hW1])
  obtain ⟨B, hB⟩ : ∃ B, B = W1.heap.size := ⟨_, rfl⟩
  obtain ⟨P, hP⟩ : ∃ P, P = W2.heap.size := ⟨_, rfl⟩
  have HE1 := Lib.hid (show w.heap.size + 1 + 1 = P by omega)
  have HE2 := Lib.hid (show w.heap.size + 1 = B by omega)
  have hRB : w.heap.size < B := by omega
  have hBP : B < P := by omega
  have hPz : P < WA.heap.size := by omega
  rw [← hB] at HEA
  rw [← hP] at HPA
  have HT1 := Lib.hid (enum_all WA B bs bs 0 HEA.out)
  rw [HX.out] at HT1
  clear hB hP k1 k2 k3 g1 g2 g3 hWA hW2 hW1
  go_enter Tryd.func82, Tryd.ntmps82
  go_wp2_with fail
  rw [HW.out, HE1.out, HE2.out]
  refine HT1.out.mono ?_
  rintro e w2 ⟨rfl, hr2, ho2⟩
  try dsimp only at hr2
  have hz2 := ho2.size
  have HP2 := Lib.hid (show RecAt w2 P 0 none 0 0 from (ho2.block _ (by omega) (by omega)).trans HPA.out)
  obtain ⟨p0, p1, q0, q1, _⟩ := two_cell HP2.out
  obtain ⟨WB, hWB⟩ : ∃ WB, WB = w2.setCell ⟨P, 0, none⟩ (.int .i64 ep) := ⟨_, rfl⟩
  have hzB : WB.heap.size = w2.heap.size := by rw [hWB]; simp [World.setCell]
  have HPB := Lib.hid (show RecAt WB P ep none 0 0 by rw [hWB]; exact two_set0 HP2.out)
  have HEB := Lib.hid (show Ey WB B bs [] 0 by rw [hWB]; exact hr2.keep (fun k hk => Below.heap_setCell _ _ _ _ (show k ≠ P by omega)))
  have HR0B := Lib.hid (show RecAt WB w.heap.size 0 none 0 0 by rw [hWB]; exact (Below.heap_setCell _ _ _ _ (show w.heap.size ≠ P by omega)).trans ((ho2.block _ (by omega) (by omega)).trans HR0A.out))
  have HBB := Lib.hid (show Below w.heap.size w WB by rw [hWB]; exact bSet (HBA.out.trans (ho2.below (by omega) (by omega))) (p := ⟨P, 0, none⟩) (show w.heap.size ≤ P by omega) _)
  have HWB := Lib.hid hWB
  obtain ⟨b0, b1, b2, b3, _⟩ := two_cell HPB.out
  have n1 : ¬ B = P := by omega
  have n2 : ¬ P = B := by omega
  have n3 : ¬ w.heap.size = P := by omega
  have n4 : ¬ P = w.heap.size := by omega
  have n5 : ¬ w.heap.size = B := by omega
  have n6 : ¬ B = w.heap.size := by omega
  obtain ⟨A5, c5, a5, t0, t1, t2, t3, t4, t5⟩ := hr2
  obtain ⟨r0, r1, r2, r3, r4⟩ := two_cell ((ho2.block w.heap.size (by omega) (by omega)).trans HR0A.out)
  clear hWB ho2 HT1
  obtain ⟨W4, hW4⟩ : ∃ W4, W4 = WB := ⟨_, rfl⟩
  have hz4 : W4.heap.size = WB.heap.size := by rw [hW4]
  have HP4 := Lib.hid (show RecAt W4 P ep none 0 0 by rw [hW4]; exact HPB.out)
  have HE4 := Lib.hid (show Ey W4 B bs [] 0 by rw [hW4]; exact HEB.out)
  have HR04 := Lib.hid (show RecAt W4 w.heap.size 0 none 0 0 by rw [hW4]; exact HR0B.out)
  have HB4 := Lib.hid (show Below w.heap.size w W4 by rw [hW4]; exact HBB.out)
  have HC4 := Lib.hid (show W4.heap[B]? = some (.cells #[.slice A5 bs.length c5, .int .i64 (a5 : Nat), .int .i64 0] 146 (0, 0)) by rw [hW4, HWB.out]; exact (Below.heap_setCell _ _ _ _ (show B ≠ P by omega)).trans t0)
  have HW4 := Lib.hid hW4
  clear hW4
  have hPW : P < W4.heap.size := by omega
  obtain ⟨s0, s1, s2, s3, s4, s5, s6⟩ := three_cell t0
  have hlen := congrArg List.length t2
  rw [List.length_drop, List.length_nil] at hlen
  obtain rfl : a5 = bs.length := by omega
  clear hlen
  have HBb := Lib.hid (show Below w.heap.size w (w2.setCell ⟨P, 0, none⟩ (.int .i64 ep)) by rw [← HWB.out, ← HW4.out]; exact HB4.out)
  have HRb := Lib.hid (show RecAt (w2.setCell ⟨P, 0, none⟩ (.int .i64 ep)) w.heap.size 0 none 0 0 by rw [← HWB.out, ← HW4.out]; exact HR04.out)
  have HC6 := Lib.hid (RecordFault_c W4 ep none 0 [] (HT.out.later HB4.out) (Sl.nil) (by simp) (by simp))
  rw [HF.out] at HC6
  go_wp2_with fail
  rw [← HWB.out, ← HW4.out]
  refine HC6.out.mono ?_
  rintro e w6 ⟨rfl, hb6⟩
  have hz6 := hb6.size
  have HB6 := Lib.hid hb6
  obtain ⟨r0, r1, r2, r3, r4⟩ := two_cell ((hb6.block _ (by omega)).trans HR04.out)
  obtain ⟨v0, v1, v2, v3, v4⟩ := two_cell ((hb6.block _ (by omega)).trans HP4.out)
  obtain ⟨y0, y1, y2, y3, y4, y5, y6⟩ := three_cell ((hb6.block _ (by omega)).trans HC4.out)
  clear hb6 HC6
  go_wp2_with fail
  go_region
  go_wp2
  have hrw : RecAt (w6.setCell ⟨B, 2, none⟩ (.int .i64 er)) w.heap.size 0 none 0 0 := (Below.heap_setCell _ _ _ _ (show w.heap.size ≠ B by omega)).trans ((HB6.out.block _ (by omega)).trans HR04.out)
  have z0 := (two_cell (two_set0 (x := .int .i64 0) hrw)).1
  have z1 := (two_cell (two_set1 (x := .slice none 0 0) (two_set0 (x := .int .i64 0) hrw))).2.1
  refine bodyPost_ret (v := .tuple #[.agg #[.int .i64 0, .slice none 0 0], .int .i64 er]) (by simp [results, Tryd.results82, go_sem, z0, z1]) rfl ?_
  exact ⟨none, 0, rfl, Sl.nil, by repeat (first | exact bThen HB4.out HB6.out | apply Below.drew | apply bSet | exact Nat.le_refl _ | exact Nat.le_of_lt hRB)⟩
set_option maxHeartbeats 2000000 in
theorem RecordOf_no (w : World) (A : Option Addr) (c : Nat) (bs : List UInt8) (hs : Sl (· < w.heap.size) w 1 A bs.length (bs.map byteV)) (hc : bs.length ≤ c ∧ c ≤ 9223372036854775807) (hl : bs.length ≤ 50000) (HT : Hid (Tabs w)) (ep : Int) (_e1 : (ep == 0) = false)
    (HX : Hid (readNum bs 0 = (ep, [], 0))) (HF : Hid (recordFault ep [] = 0)) :
    Calls Tryd.prog 82 #[.slice A bs.length c] w (RetRec w ep [] 0) := by
  have e0 : decide ((50000 : Int) < (bs.length : Int)) = false := by simp; omega
  obtain ⟨W1, hW1⟩ : ∃ W1, W1 = w.alloc (.cells #[.int .i64 0, .slice none 0 0] 132) := ⟨_, rfl⟩
  obtain ⟨W2, hW2⟩ : ∃ W2, W2 = W1.alloc (.cells #[.slice A bs.length c, .int .i64 0, .int .i64 0] 146) := ⟨_, rfl⟩
  obtain ⟨WA, hWA⟩ : ∃ WA, WA = W2.alloc (.cells #[.int .i64 0, .slice none 0 0] 132) := ⟨_, rfl⟩
  have g1 : W1.heap.size = w.heap.size + 1 := by rw [hW1]; simp
  have g2 : W2.heap.size = W1.heap.size + 1 := by rw [hW2]; simp
  have g3 : WA.heap.size = W2.heap.size + 1 := by rw [hWA]; simp
  have k1 : Below w.heap.size w W1 := by rw [hW1]; exact bAlloc (Below.refl _ _) _
  have k2 : Below W1.heap.size W1 W2 := by rw [hW2]; exact bAlloc (Below.refl _ _) _
  have k3 : Below W2.heap.size W2 WA := by rw [hWA]; exact bAlloc (Below.refl _ _) _
  have HR0A := Lib.hid (show RecAt WA w.heap.size 0 none 0 0 from (k3.block _ (by omega)).trans ((k2.block _ (by omega)).trans (by rw [hW1]; show (w.heap.push _)[w.heap.size]? = _; simp)))
  have HEA := Lib.hid (show Ey WA W1.heap.size bs bs 0 from Ey.later (by rw [hW2]; exact Ey.fresh W1 A bs c (Sl.later hs k1) hl hc.1 hc.2) k3)
  have HPA := Lib.hid (show RecAt WA W2.heap.size 0 none 0 0 by rw [hWA]; show (W2.heap.push _)[W2.heap.size]? = _; simp)
  have HBA := Lib.hid (bThen k1 (bThen k2 k3))
  have HW := Lib.hid (show ((w.alloc (.cells #[.int .i64 0, .slice none 0 0] 132)).alloc (.cells #[.slice A bs.length c, .int .i64 0, .int .i64 0] 146)).alloc (.cells #[.int .i64 0, .slice none 0 0] 132) = WA by rw [hWA, hW2, hW1])
  obtain ⟨B, hB⟩ : ∃ B, B = W1.heap.size := ⟨_, rfl⟩
  obtain ⟨P, hP⟩ : ∃ P, P = W2.heap.size := ⟨_, rfl⟩
  have HE1 := Lib.hid (show w.heap.size + 1 + 1 = P by omega)
  have HE2 := Lib.hid (show w.heap.size + 1 = B by omega)
  have hRB : w.heap.size < B := by omega
  have hBP : B < P := by omega
  have hPz : P < WA.heap.size := by omega
  rw [← hB] at HEA
  rw [← hP] at HPA
  have HT1 := Lib.hid (enum_all WA B bs bs 0 HEA.out)
  rw [HX.out] at HT1
  clear hB hP k1 k2 k3 g1 g2 g3 hWA hW2 hW1
  go_enter Tryd.func82, Tryd.ntmps82
  go_wp2_with fail
  rw [HW.out, HE1.out, HE2.out]
  refine HT1.out.mono ?_
  rintro e w2 ⟨rfl, hr2, ho2⟩
  try dsimp only at hr2
  have hz2 := ho2.size
  have HP2 := Lib.hid (show RecAt w2 P 0 none 0 0 from (ho2.block _ (by omega) (by omega)).trans HPA.out)
  obtain ⟨p0, p1, q0, q1, _⟩ := two_cell HP2.out
  obtain ⟨WB, hWB⟩ : ∃ WB, WB = w2.setCell ⟨P, 0, none⟩ (.int .i64 ep) := ⟨_, rfl⟩
  have hzB : WB.heap.size = w2.heap.size := by rw [hWB]; simp [World.setCell]
  have HPB := Lib.hid (show RecAt WB P ep none 0 0 by rw [hWB]; exact two_set0 HP2.out)
  have HEB := Lib.hid (show Ey WB B bs [] 0 by rw [hWB]; exact hr2.keep (fun k hk => Below.heap_setCell _ _ _ _ (show k ≠ P by omega)))
  have HR0B := Lib.hid (show RecAt WB w.heap.size 0 none 0 0 by rw [hWB]; exact (Below.heap_setCell _ _ _ _ (show w.heap.size ≠ P by omega)).trans ((ho2.block _ (by omega) (by omega)).trans HR0A.out))
  have HBB := Lib.hid (show Below w.heap.size w WB by rw [hWB]; exact bSet (HBA.out.trans (ho2.below (by omega) (by omega))) (p := ⟨P, 0, none⟩) (show w.heap.size ≤ P by omega) _)
  have HWB := Lib.hid hWB
  obtain ⟨b0, b1, b2, b3, _⟩ := two_cell HPB.out
  have n1 : ¬ B = P := by omega
  have n2 : ¬ P = B := by omega
  have n3 : ¬ w.heap.size = P := by omega
  have n4 : ¬ P = w.heap.size := by omega
  have n5 : ¬ w.heap.size = B := by omega
  have n6 : ¬ B = w.heap.size := by omega
  obtain ⟨A5, c5, a5, t0, t1, t2, t3, t4, t5⟩ := hr2
  obtain ⟨r0, r1, r2, r3, r4⟩ := two_cell ((ho2.block w.heap.size (by omega) (by omega)).trans HR0A.out)
  clear hWB ho2 HT1
  obtain ⟨W4, hW4⟩ : ∃ W4, W4 = WB := ⟨_, rfl⟩
  have hz4 : W4.heap.size = WB.heap.size := by rw [hW4]
  have HP4 := Lib.hid (show RecAt W4 P ep none 0 0 by rw [hW4]; exact HPB.out)
  have HE4 := Lib.hid (show Ey W4 B bs [] 0 by rw [hW4]; exact HEB.out)
  have HR04 := Lib.hid (show RecAt W4 w.heap.size 0 none 0 0 by rw [hW4]; exact HR0B.out)
  have HB4 := Lib.hid (show Below w.heap.size w W4 by rw [hW4]; exact HBB.out)
  have HC4 := Lib.hid (show W4.heap[B]? = some (.cells #[.slice A5 bs.length c5, .int .i64 (a5 : Nat), .int .i64 0] 146 (0, 0)) by rw [hW4, HWB.out]; exact (Below.heap_setCell _ _ _ _ (show B ≠ P by omega)).trans t0)
  have HW4 := Lib.hid hW4
  clear hW4
  have hPW : P < W4.heap.size := by omega
  obtain ⟨s0, s1, s2, s3, s4, s5, s6⟩ := three_cell t0
  have hlen := congrArg List.length t2
  rw [List.length_drop, List.length_nil] at hlen
  obtain rfl : a5 = bs.length := by omega
  clear hlen
  have HBb := Lib.hid (show Below w.heap.size w (w2.setCell ⟨P, 0, none⟩ (.int .i64 ep)) by rw [← HWB.out, ← HW4.out]; exact HB4.out)
  have HRb := Lib.hid (show RecAt (w2.setCell ⟨P, 0, none⟩ (.int .i64 ep)) w.heap.size 0 none 0 0 by rw [← HWB.out, ← HW4.out]; exact HR04.out)
  have HC6 := Lib.hid (RecordFault_c W4 ep none 0 [] (HT.out.later HB4.out) (Sl.nil) (by simp) (by simp))
  rw [HF.out] at HC6
  go_wp2_with fail
  rw [← HWB.out, ← HW4.out]
  refine HC6.out.mono ?_
  rintro e w6 ⟨rfl, hb6⟩
  have hz6 := hb6.size
  have HB6 := Lib.hid hb6
  obtain ⟨r0, r1, r2, r3, r4⟩ := two_cell ((hb6.block _ (by omega)).trans HR04.out)
  obtain ⟨v0, v1, v2, v3, v4⟩ := two_cell ((hb6.block _ (by omega)).trans HP4.out)
  obtain ⟨y0, y1, y2, y3, y4, y5, y6⟩ := three_cell ((hb6.block _ (by omega)).trans HC4.out)
  clear hb6 HC6
  go_wp2_with fail
  have hrw : RecAt (w6.setCell ⟨B, 2, none⟩ (.int .i64 0)) w.heap.size 0 none 0 0 := (Below.heap_setCell _ _ _ _ (show w.heap.size ≠ B by omega)).trans ((HB6.out.block _ (by omega)).trans HR04.out)
  have z0 := (two_cell (two_set0 (x := .int .i64 ep) hrw)).1
  have z1 := (two_cell (two_set1 (x := .slice none 0 0) (two_set0 (x := .int .i64 ep) hrw))).2.1
  refine bodyPost_ret (v := .tuple #[.agg #[.int .i64 ep, .slice none 0 0], .int .i64 0]) (by simp [results, Tryd.results82, go_sem, z0, z1]) rfl ?_
  refine ⟨none, 0, rfl, ?_, by repeat (first | exact bThen HB4.out HB6.out | apply Below.drew | apply bSet | exact Nat.le_refl _ | exact Nat.le_of_lt hRB)⟩
  exact Sl.nil
end Go.Proofs.YtieofljkgmkaiaaDoor
