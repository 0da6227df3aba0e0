/-
  Contract of wire.DecodeRecord.
-/
import Derived.Test.YtieofljkgmkaiaaDoorRows
import Derived.Test.YtieofljkgmkaiaaDoorEyeM
import Derived.Test.YtieofljkgmkaiaaDoorWireA
import Derived.Test.YtieofljkgmkaiaaDoorFlat
import Derived.BigRegion
namespace Go.Proofs.YtieofljkgmkaiaaDoor
open Go.ChangeShapes Go.WideShapes Go.ChangeAt Go.RowKit
set_option maxRecDepth 100000
/-- A call that hands back a record and what was wrong. -/
def RetRec (w : World) (z : Int) (ps : List PartD) (er : Int) (e : Ending) (w' : World) : Prop :=
  ∃ A c, e = .returned (.tuple #[recordV z A ps.length c, .int .i64 er]) ∧ OpIn (fun b => w.heap.size ≤ b ∧ b < w'.heap.size) w' A ps ∧ Below w.heap.size w w'
/-- The block of a record's own two cells. -/
abbrev RecAt (w : World) (P : Nat) (z : Int) (A : Option Addr) (n c : Nat) : Prop := w.heap[P]? = some (.cells #[.int .i64 z, .slice A n c] 132 (0, 0))
theorem Sl.only {S : Nat → Prop} {w w' : World} {B size n : Nat} {A : Option Addr} {cs : List Value} (h : Sl S w size A n cs) (ho : Only B w w') (hS : ∀ b, S b → b < w.heap.size ∧ b ≠ B) : Sl S w' size A n cs :=
  h.keep (fun _ x => x) fun b hb => ho.block b (hS b hb).1 (hS b hb).2
theorem DecodeRecord_big (w : World) (A : Option Addr) (c : Nat) (bs : List UInt8) (hl : 50000 < bs.length) :
    Calls Tryd.prog 80 #[.slice A bs.length c] w (RetRec w 0 [] 1) := by
  have e0 : decide ((50000 : Int) < (bs.length : Int)) = true := by simp; omega
  go_enter Tryd.func80, Tryd.ntmps80
  go_wp2_with fail
  refine bodyPost_ret (v := .tuple #[recordV 0 none 0 0, .int .i64 1]) (by simp [results, Tryd.results80, go_sem]) rfl ?_
  exact ⟨none, 0, rfl, Sl.nil, (by repeat (first | exact Below.refl _ _ | apply bGrow | apply bAlloc | apply Below.drew | apply bDrewN | apply bIter))⟩
set_option maxHeartbeats 2000000 in
theorem DecodeRecord_zg (w : World) (A : Option Addr) (c : Nat) (bs : List UInt8) (hs : Sl (· < w.heap.size) w 1 A bs.length (bs.map byteV)) (hl : bs.length ≤ 50000) (_HT : Hid (Tabs w)) (l1 : List UInt8) (f1 : Int) (hl1 : l1.length ≤ 50000) (ps : List PartD) (l2 : List UInt8) (f2 : Int)
    (HX : Hid (readNum bs 0 = (0, l1, f1))) (HY : Hid (readOp l1 f1 = (ps, l2, f2))) (g : Int) (HG : Hid (endFault l2 f2 = g)) (_g0 : (g == 0) = false) :
    Calls Tryd.prog 80 #[.slice A bs.length c] w (RetRec w 0 [] g) := by
  have e0 : decide ((50000 : Int) < (bs.length : Int)) = false := by simp; omega
  go_enter Tryd.func80, Tryd.ntmps80
  go_wp2_with fail
  refine (CloneBytes_c _ A c bs (Sl.later hs (by repeat (first | exact Below.refl _ _ | apply bGrow | apply bAlloc | apply Below.drew | apply bDrewN | apply bIter))) (by omega)).mono ?_
  rintro e w1 ⟨A1, c1, rfl, ho1, hb1⟩
  have HS1 := Lib.hid (own_sl ho1)
  have HC1 := Lib.hid (own_cap ho1)
  have HB1 := Lib.hid (box_below' hb1)
  have HR0 := Lib.hid (show RecAt w1 w.heap.size 0 none 0 0 by unfold RecAt; rw [hb1.block w.heap.size (by simp)]; show (w.heap.push _)[w.heap.size]? = _; simp)
  have hz1 : w.heap.size < w1.heap.size := by have := hb1.size; simp at this; omega
  clear ho1 hb1
  obtain ⟨WR, hWR⟩ : ∃ WR, WR = w1.alloc (.cells #[.slice A1 bs.length c1, .int .i64 0] 141) := ⟨_, rfl⟩
  have HRd := Lib.hid (show Rd WR w1.heap.size bs 0 by rw [hWR]; exact Rd.fresh w1 A1 bs c1 HS1.out HC1.out.1 HC1.out.2)
  have hzR : WR.heap.size = w1.heap.size + 1 := by rw [hWR]; simp
  have HBR := Lib.hid (show Below w1.heap.size w1 WR by rw [hWR]; exact bAlloc (Below.refl _ _) _)
  have HWR := Lib.hid hWR
  have HT1 := Lib.hid (rtake_all WR w1.heap.size bs 0 HRd.out)
  rw [HX.out] at HT1
  clear hWR
  go_wp2_with fail
  rw [← HWR.out]
  refine HT1.out.mono ?_
  rintro e w2 ⟨rfl, hr2, ho2⟩
  try dsimp only at hr2
  have hz2 := ho2.size
  have HR2 := Lib.hid hr2
  have HR02 := Lib.hid (show RecAt w2 w.heap.size 0 none 0 0 from (ho2.block _ (by omega) (by omega)).trans ((HBR.out.block _ hz1).trans HR0.out))
  have HB2 := Lib.hid (show Below w.heap.size w w2 from bThen HB1.out ((HBR.out).trans (ho2.below (Nat.le_refl _) (by omega))))
  clear hr2 ho2 HT1
  obtain ⟨WA, hWA⟩ : ∃ WA, WA = w2.alloc (.cells #[.int .i64 0, .slice none 0 0] 132) := ⟨_, rfl⟩
  have hzA : WA.heap.size = w2.heap.size + 1 := by rw [hWA]; simp
  have hba : Below w2.heap.size w2 WA := by rw [hWA]; exact bAlloc (Below.refl _ _) _
  have HRA := Lib.hid (HR2.out.later hba)
  have HR0A := Lib.hid (show RecAt WA w.heap.size 0 none 0 0 from (hba.block _ (by omega)).trans HR02.out)
  have HBA := Lib.hid (bThen HB2.out hba)
  have HPA := Lib.hid (show RecAt WA w2.heap.size 0 none 0 0 by rw [hWA]; show (w2.heap.push _)[w2.heap.size]? = _; simp)
  have HWA := Lib.hid hWA
  clear hba hWA
  have HT2 := Lib.hid (rop_c WA w1.heap.size l1 f1 HRA.out hl1)
  rw [HY.out] at HT2
  go_wp2_with fail
  rw [← HWA.out]
  refine HT2.out.mono ?_
  rintro e w3 ⟨A3, c3, rfl, ho3, hr3, hon3⟩
  try dsimp only at ho3 hr3
  have hz3 := hon3.size
  have HP3 := Lib.hid (show RecAt w3 w2.heap.size 0 none 0 0 from (hon3.block _ (by omega) (by omega)).trans HPA.out)
  obtain ⟨p0, p1, q0, q1, _⟩ := two_cell HP3.out
  obtain ⟨W4, hW4⟩ : ∃ W4, W4 = w3.setCell ⟨w2.heap.size, 1, none⟩ (.slice A3 ps.length c3) := ⟨_, rfl⟩
  have hz4 : W4.heap.size = w3.heap.size := by rw [hW4]; simp [World.setCell]
  have HP4 := Lib.hid (show RecAt W4 w2.heap.size 0 A3 ps.length c3 by rw [hW4]; exact two_set1 HP3.out)
  have HR4 := Lib.hid (show Rd W4 w1.heap.size l2 f2 by rw [hW4]; exact hr3.keep (fun k hk => Below.heap_setCell _ _ _ _ (show k ≠ w2.heap.size by omega)))
  have HR04 := Lib.hid (show RecAt W4 w.heap.size 0 none 0 0 by rw [hW4]; exact (Below.heap_setCell _ _ _ _ (show w.heap.size ≠ w2.heap.size by omega)).trans ((hon3.block _ (by omega) (by omega)).trans HR0A.out))
  have HO4 := Lib.hid (show Sl (fun b => w2.heap.size < b ∧ b < w3.heap.size) W4 3 A3 ps.length (opCells ps) by rw [hW4]; exact (Sl.of_own w3 ho3).keep (fun b hb => ⟨by omega, hb.2⟩) (fun b hb => Below.heap_setCell _ _ _ _ (show b ≠ w2.heap.size by omega)))
  have HB4 := Lib.hid (show Below w.heap.size w W4 by rw [hW4]; exact bSet (HBA.out.trans (hon3.below (by omega) (by omega))) (p := ⟨w2.heap.size, 1, none⟩) (show w.heap.size ≤ w2.heap.size by omega) _)
  have HW4 := Lib.hid hW4
  clear hW4 ho3 hr3 hon3
  go_wp2_with fail
  rw [← HW4.out]
  have HT5 := Lib.hid (rend_c W4 w1.heap.size l2 f2 HR4.out)
  rw [HG.out] at HT5
  refine HT5.out.mono ?_
  rintro e w5 ⟨rfl, ⟨l5, A5, c5, hr5, _, _⟩, ho5⟩
  have hz5 := ho5.size
  have HP5 := Lib.hid (show RecAt w5 w2.heap.size 0 A3 ps.length c3 from (ho5.block _ (by omega) (by omega)).trans HP4.out)
  have HR05 := Lib.hid (show RecAt w5 w.heap.size 0 none 0 0 from (ho5.block _ (by omega) (by omega)).trans HR04.out)
  have HB5 := Lib.hid (show Below w.heap.size w w5 from HB4.out.trans (ho5.below (by omega) (by omega)))
  obtain ⟨r0, r1, r2, r3, r4⟩ := two_cell HR05.out
  obtain ⟨s0, s1, s2, s3, s4⟩ := two_cell HP5.out
  obtain ⟨t0, t1, t2, t3, t4⟩ := two_cell hr5
  have HRD5 := Lib.hid hr5
  have HO5 := Lib.hid (HO4.out.only ho5 (fun b hb => ⟨by omega, by omega⟩))
  clear hr5 ho5 HT5
  have n1 : ¬ w.heap.size = w1.heap.size := by omega
  have n2 : ¬ w1.heap.size = w.heap.size := by omega
  go_wp2_with fail
  go_region
  go_wp2
  have hrw : RecAt w5 w.heap.size 0 none 0 0 := HR05.out
  have z0 := (two_cell (two_set0 (x := .int .i64 0) hrw)).1
  have z1 := (two_cell (two_set1 (x := .slice none 0 0) (two_set0 (x := .int .i64 0) hrw))).2.1
  refine bodyPost_ret (v := .tuple #[.agg #[.int .i64 0, .slice none 0 0], .int .i64 g]) (by simp [results, Tryd.results80, go_sem, z0, z1]) rfl ?_
  exact ⟨none, 0, rfl, Sl.nil, by repeat (first | exact HB5.out | apply Below.drew | apply bSet | exact Nat.le_refl _ | exact Nat.le_of_lt hz1)⟩
set_option maxHeartbeats 2000000 in
theorem DecodeRecord_zf (w : World) (A : Option Addr) (c : Nat) (bs : List UInt8) (hs : Sl (· < w.heap.size) w 1 A bs.length (bs.map byteV)) (hl : bs.length ≤ 50000) (HT : Hid (Tabs w)) (l1 : List UInt8) (f1 : Int) (hl1 : l1.length ≤ 50000) (ps : List PartD) (l2 : List UInt8) (f2 : Int)
    (HX : Hid (readNum bs 0 = (0, l1, f1))) (HY : Hid (readOp l1 f1 = (ps, l2, f2))) (HP : Hid (ps.length ≤ 1048576 ∧ ∀ p ∈ ps, p.text.size ≤ 1048576)) (HG : Hid (endFault l2 f2 = 0)) (er : Int) (HF : Hid (recordFault 0 ps = er)) (_er0 : (er == 0) = false) :
    Calls Tryd.prog 80 #[.slice A bs.length c] w (RetRec w 0 [] er) := by
  have e0 : decide ((50000 : Int) < (bs.length : Int)) = false := by simp; omega
  go_enter Tryd.func80, Tryd.ntmps80
  go_wp2_with fail
  refine (CloneBytes_c _ A c bs (Sl.later hs (by repeat (first | exact Below.refl _ _ | apply bGrow | apply bAlloc | apply Below.drew | apply bDrewN | apply bIter))) (by omega)).mono ?_
  rintro e w1 ⟨A1, c1, rfl, ho1, hb1⟩
  have HS1 := Lib.hid (own_sl ho1)
  have HC1 := Lib.hid (own_cap ho1)
  have HB1 := Lib.hid (box_below' hb1)
  have HR0 := Lib.hid (show RecAt w1 w.heap.size 0 none 0 0 by unfold RecAt; rw [hb1.block w.heap.size (by simp)]; show (w.heap.push _)[w.heap.size]? = _; simp)
  have hz1 : w.heap.size < w1.heap.size := by have := hb1.size; simp at this; omega
  clear ho1 hb1
  obtain ⟨WR, hWR⟩ : ∃ WR, WR = w1.alloc (.cells #[.slice A1 bs.length c1, .int .i64 0] 141) := ⟨_, rfl⟩
  have HRd := Lib.hid (show Rd WR w1.heap.size bs 0 by rw [hWR]; exact Rd.fresh w1 A1 bs c1 HS1.out HC1.out.1 HC1.out.2)
  have hzR : WR.heap.size = w1.heap.size + 1 := by rw [hWR]; simp
  have HBR := Lib.hid (show Below w1.heap.size w1 WR by rw [hWR]; exact bAlloc (Below.refl _ _) _)
  have HWR := Lib.hid hWR
  have HT1 := Lib.hid (rtake_all WR w1.heap.size bs 0 HRd.out)
  rw [HX.out] at HT1
  clear hWR
  go_wp2_with fail
  rw [← HWR.out]
  refine HT1.out.mono ?_
  rintro e w2 ⟨rfl, hr2, ho2⟩
  try dsimp only at hr2
  have hz2 := ho2.size
  have HR2 := Lib.hid hr2
  have HR02 := Lib.hid (show RecAt w2 w.heap.size 0 none 0 0 from (ho2.block _ (by omega) (by omega)).trans ((HBR.out.block _ hz1).trans HR0.out))
  have HB2 := Lib.hid (show Below w.heap.size w w2 from bThen HB1.out ((HBR.out).trans (ho2.below (Nat.le_refl _) (by omega))))
  clear hr2 ho2 HT1
  obtain ⟨WA, hWA⟩ : ∃ WA, WA = w2.alloc (.cells #[.int .i64 0, .slice none 0 0] 132) := ⟨_, rfl⟩
  have hzA : WA.heap.size = w2.heap.size + 1 := by rw [hWA]; simp
  have hba : Below w2.heap.size w2 WA := by rw [hWA]; exact bAlloc (Below.refl _ _) _
  have HRA := Lib.hid (HR2.out.later hba)
  have HR0A := Lib.hid (show RecAt WA w.heap.size 0 none 0 0 from (hba.block _ (by omega)).trans HR02.out)
  have HBA := Lib.hid (bThen HB2.out hba)
  have HPA := Lib.hid (show RecAt WA w2.heap.size 0 none 0 0 by rw [hWA]; show (w2.heap.push _)[w2.heap.size]? = _; simp)
  have HWA := Lib.hid hWA
  clear hba hWA
  have HT2 := Lib.hid (rop_c WA w1.heap.size l1 f1 HRA.out hl1)
  rw [HY.out] at HT2
  go_wp2_with fail
  rw [← HWA.out]
  refine HT2.out.mono ?_
  rintro e w3 ⟨A3, c3, rfl, ho3, hr3, hon3⟩
  try dsimp only at ho3 hr3
  have hz3 := hon3.size
  have HP3 := Lib.hid (show RecAt w3 w2.heap.size 0 none 0 0 from (hon3.block _ (by omega) (by omega)).trans HPA.out)
  obtain ⟨p0, p1, q0, q1, _⟩ := two_cell HP3.out
  obtain ⟨W4, hW4⟩ : ∃ W4, W4 = w3.setCell ⟨w2.heap.size, 1, none⟩ (.slice A3 ps.length c3) := ⟨_, rfl⟩
  have hz4 : W4.heap.size = w3.heap.size := by rw [hW4]; simp [World.setCell]
  have HP4 := Lib.hid (show RecAt W4 w2.heap.size 0 A3 ps.length c3 by rw [hW4]; exact two_set1 HP3.out)
  have HR4 := Lib.hid (show Rd W4 w1.heap.size l2 f2 by rw [hW4]; exact hr3.keep (fun k hk => Below.heap_setCell _ _ _ _ (show k ≠ w2.heap.size by omega)))
  have HR04 := Lib.hid (show RecAt W4 w.heap.size 0 none 0 0 by rw [hW4]; exact (Below.heap_setCell _ _ _ _ (show w.heap.size ≠ w2.heap.size by omega)).trans ((hon3.block _ (by omega) (by omega)).trans HR0A.out))
  have HO4 := Lib.hid (show Sl (fun b => w2.heap.size < b ∧ b < w3.heap.size) W4 3 A3 ps.length (opCells ps) by rw [hW4]; exact (Sl.of_own w3 ho3).keep (fun b hb => ⟨by omega, hb.2⟩) (fun b hb => Below.heap_setCell _ _ _ _ (show b ≠ w2.heap.size by omega)))
  have HB4 := Lib.hid (show Below w.heap.size w W4 by rw [hW4]; exact bSet (HBA.out.trans (hon3.below (by omega) (by omega))) (p := ⟨w2.heap.size, 1, none⟩) (show w.heap.size ≤ w2.heap.size by omega) _)
  have HW4 := Lib.hid hW4
  clear hW4 ho3 hr3 hon3
  go_wp2_with fail
  rw [← HW4.out]
  have HT5 := Lib.hid (rend_c W4 w1.heap.size l2 f2 HR4.out)
  rw [HG.out] at HT5
  refine HT5.out.mono ?_
  rintro e w5 ⟨rfl, ⟨l5, A5, c5, hr5, _, _⟩, ho5⟩
  have hz5 := ho5.size
  have HP5 := Lib.hid (show RecAt w5 w2.heap.size 0 A3 ps.length c3 from (ho5.block _ (by omega) (by omega)).trans HP4.out)
  have HR05 := Lib.hid (show RecAt w5 w.heap.size 0 none 0 0 from (ho5.block _ (by omega) (by omega)).trans HR04.out)
  have HB5 := Lib.hid (show Below w.heap.size w w5 from HB4.out.trans (ho5.below (by omega) (by omega)))
  obtain ⟨r0, r1, r2, r3, r4⟩ := two_cell HR05.out
  obtain ⟨s0, s1, s2, s3, s4⟩ := two_cell HP5.out
  obtain ⟨t0, t1, t2, t3, t4⟩ := two_cell hr5
  have HRD5 := Lib.hid hr5
  have HO5 := Lib.hid (HO4.out.only ho5 (fun b hb => ⟨by omega, by omega⟩))
  clear hr5 ho5 HT5
  have HC6 := Lib.hid (CheckRecord_c w5 0 A3 c3 ps (HT.out.later HB5.out) (HO5.out.keep (fun b hb => by omega) (fun _ _ => rfl)) HP.out.1 HP.out.2)
  rw [HF.out] at HC6
  go_wp2_with fail
  refine HC6.out.mono ?_
  rintro e w6 ⟨rfl, hb6⟩
  have hz6 := hb6.size
  have HB6 := Lib.hid hb6
  obtain ⟨r0, r1, r2, r3, r4⟩ := two_cell ((hb6.block _ (by omega)).trans HR05.out)
  obtain ⟨s0, s1, s2, s3, s4⟩ := two_cell ((hb6.block _ (by omega)).trans HP5.out)
  obtain ⟨t0, t1, t2, t3, t4⟩ := two_cell ((hb6.block _ (by omega)).trans HRD5.out)
  have n1 : ¬ w.heap.size = w1.heap.size := by omega
  have n2 : ¬ w1.heap.size = w.heap.size := by omega
  have n3 : ¬ w.heap.size = w2.heap.size := by omega
  have n4 : ¬ w2.heap.size = w.heap.size := by omega
  have n5 : ¬ w1.heap.size = w2.heap.size := by omega
  have n6 : ¬ w2.heap.size = w1.heap.size := by omega
  clear hb6 HC6
  go_wp2_with fail
  go_region
  go_wp2
  have hrw : RecAt (w6.setCell ⟨w1.heap.size, 1, none⟩ (.int .i64 er)) w.heap.size 0 none 0 0 := (Below.heap_setCell _ _ _ _ (show w.heap.size ≠ w1.heap.size by omega)).trans ((HB6.out.block _ (by omega)).trans HR05.out)
  have z0 := (two_cell (two_set0 (x := .int .i64 0) hrw)).1
  have z1 := (two_cell (two_set1 (x := .slice none 0 0) (two_set0 (x := .int .i64 0) hrw))).2.1
  refine bodyPost_ret (v := .tuple #[.agg #[.int .i64 0, .slice none 0 0], .int .i64 er]) (by simp [results, Tryd.results80, go_sem, z0, z1]) rfl ?_
  exact ⟨none, 0, rfl, Sl.nil, by repeat (first | exact bThen HB5.out HB6.out | apply Below.drew | apply bSet | exact Nat.le_refl _ | exact Nat.le_of_lt hz1)⟩
set_option maxHeartbeats 2000000 in
theorem DecodeRecord_zo (w : World) (A : Option Addr) (c : Nat) (bs : List UInt8) (hs : Sl (· < w.heap.size) w 1 A bs.length (bs.map byteV)) (hl : bs.length ≤ 50000) (HT : Hid (Tabs w)) (l1 : List UInt8) (f1 : Int) (hl1 : l1.length ≤ 50000) (ps : List PartD) (l2 : List UInt8) (f2 : Int)
    (HX : Hid (readNum bs 0 = (0, l1, f1))) (HY : Hid (readOp l1 f1 = (ps, l2, f2))) (HP : Hid (ps.length ≤ 1048576 ∧ ∀ p ∈ ps, p.text.size ≤ 1048576)) (HG : Hid (endFault l2 f2 = 0)) (HF : Hid (recordFault 0 ps = 0)) :
    Calls Tryd.prog 80 #[.slice A bs.length c] w (RetRec w 0 ps 0) := by
  have e0 : decide ((50000 : Int) < (bs.length : Int)) = false := by simp; omega
  go_enter Tryd.func80, Tryd.ntmps80
  go_wp2_with fail
  refine (CloneBytes_c _ A c bs (Sl.later hs (by repeat (first | exact Below.refl _ _ | apply bGrow | apply bAlloc | apply Below.drew | apply bDrewN | apply bIter))) (by omega)).mono ?_
  rintro e w1 ⟨A1, c1, rfl, ho1, hb1⟩
  have HS1 := Lib.hid (own_sl ho1)
  have HC1 := Lib.hid (own_cap ho1)
  have HB1 := Lib.hid (box_below' hb1)
  have HR0 := Lib.hid (show RecAt w1 w.heap.size 0 none 0 0 by unfold RecAt; rw [hb1.block w.heap.size (by simp)]; show (w.heap.push _)[w.heap.size]? = _; simp)
  have hz1 : w.heap.size < w1.heap.size := by have := hb1.size; simp at this; omega
  clear ho1 hb1
  obtain ⟨WR, hWR⟩ : ∃ WR, WR = w1.alloc (.cells #[.slice A1 bs.length c1, .int .i64 0] 141) := ⟨_, rfl⟩
  have HRd := Lib.hid (show Rd WR w1.heap.size bs 0 by rw [hWR]; exact Rd.fresh w1 A1 bs c1 HS1.out HC1.out.1 HC1.out.2)
  have hzR : WR.heap.size = w1.heap.size + 1 := by rw [hWR]; simp
  have HBR := Lib.hid (show Below w1.heap.size w1 WR by rw [hWR]; exact bAlloc (Below.refl _ _) _)
  have HWR := Lib.hid hWR
  have HT1 := Lib.hid (rtake_all WR w1.heap.size bs 0 HRd.out)
  rw [HX.out] at HT1
  clear hWR
  go_wp2_with fail
  rw [← HWR.out]
  refine HT1.out.mono ?_
  rintro e w2 ⟨rfl, hr2, ho2⟩
  try dsimp only at hr2
  have hz2 := ho2.size
  have HR2 := Lib.hid hr2
  have HR02 := Lib.hid (show RecAt w2 w.heap.size 0 none 0 0 from (ho2.block _ (by omega) (by omega)).trans ((HBR.out.block _ hz1).trans HR0.out))
  have HB2 := Lib.hid (show Below w.heap.size w w2 from bThen HB1.out ((HBR.out).trans (ho2.below (Nat.le_refl _) (by omega))))
  clear hr2 ho2 HT1
  obtain ⟨WA, hWA⟩ : ∃ WA, WA = w2.alloc (.cells #[.int .i64 0, .slice none 0 0] 132) := ⟨_, rfl⟩
  have hzA : WA.heap.size = w2.heap.size + 1 := by rw [hWA]; simp
  have hba : Below w2.heap.size w2 WA := by rw [hWA]; exact bAlloc (Below.refl _ _) _
  have HRA := Lib.hid (HR2.out.later hba)
  have HR0A := Lib.hid (show RecAt WA w.heap.size 0 none 0 0 from (hba.block _ (by omega)).trans HR02.out)
  have HBA := Lib.hid (bThen HB2.out hba)
  have HPA := Lib.hid (show RecAt WA w2.heap.size 0 none 0 0 by rw [hWA]; show (w2.heap.push _)[w2.heap.size]? = _; simp)
  have HWA := Lib.hid hWA
  clear hba hWA
  have HT2 := Lib.hid (rop_c WA w1.heap.size l1 f1 HRA.out hl1)
  rw [HY.out] at HT2
  go_wp2_with fail
  rw [← HWA.out]
  refine HT2.out.mono ?_
  rintro e w3 ⟨A3, c3, rfl, ho3, hr3, hon3⟩
  try dsimp only at ho3 hr3
  have hz3 := hon3.size
  have HP3 := Lib.hid (show RecAt w3 w2.heap.size 0 none 0 0 from (hon3.block _ (by omega) (by omega)).trans HPA.out)
  obtain ⟨p0, p1, q0, q1, _⟩ := two_cell HP3.out
  obtain ⟨W4, hW4⟩ : ∃ W4, W4 = w3.setCell ⟨w2.heap.size, 1, none⟩ (.slice A3 ps.length c3) := ⟨_, rfl⟩
  have hz4 : W4.heap.size = w3.heap.size := by rw [hW4]; simp [World.setCell]
  have HP4 := Lib.hid (show RecAt W4 w2.heap.size 0 A3 ps.length c3 by rw [hW4]; exact two_set1 HP3.out)
  have HR4 := Lib.hid (show Rd W4 w1.heap.size l2 f2 by rw [hW4]; exact hr3.keep (fun k hk => Below.heap_setCell _ _ _ _ (show k ≠ w2.heap.size by omega)))
  have HR04 := Lib.hid (show RecAt W4 w.heap.size 0 none 0 0 by rw [hW4]; exact (Below.heap_setCell _ _ _ _ (show w.heap.size ≠ w2.heap.size by omega)).trans ((hon3.block _ (by omega) (by omega)).trans HR0A.out))
  have HO4 := Lib.hid (show Sl (fun b => w2.heap.size < b ∧ b < w3.heap.size) W4 3 A3 ps.length (opCells ps) by rw [hW4]; exact (Sl.of_own w3 ho3).keep (fun b hb => ⟨by omega, hb.2⟩) (fun b hb => Below.heap_setCell _ _ _ _ (show b ≠ w2.heap.size by omega)))
  have HB4 := Lib.hid (show Below w.heap.size w W4 by rw [hW4]; exact bSet (HBA.out.trans (hon3.below (by omega) (by omega))) (p := ⟨w2.heap.size, 1, none⟩) (show w.heap.size ≤ w2.heap.size by omega) _)
  have HW4 := Lib.hid hW4
  clear hW4 ho3 hr3 hon3
  go_wp2_with fail
  rw [← HW4.out]
  have HT5 := Lib.hid (rend_c W4 w1.heap.size l2 f2 HR4.out)
  rw [HG.out] at HT5
  refine HT5.out.mono ?_
  rintro e w5 ⟨rfl, ⟨l5, A5, c5, hr5, _, _⟩, ho5⟩
  have hz5 := ho5.size
  have HP5 := Lib.hid (show RecAt w5 w2.heap.size 0 A3 ps.length c3 from (ho5.block _ (by omega) (by omega)).trans HP4.out)
  have HR05 := Lib.hid (show RecAt w5 w.heap.size 0 none 0 0 from (ho5.block _ (by omega) (by omega)).trans HR04.out)
  have HB5 := Lib.hid (show Below w.heap.size w w5 from HB4.out.trans (ho5.below (by omega) (by omega)))
  obtain ⟨r0, r1, r2, r3, r4⟩ := two_cell HR05.out
  obtain ⟨s0, s1, s2, s3, s4⟩ := two_cell HP5.out
  obtain ⟨t0, t1, t2, t3, t4⟩ := two_cell hr5
  have HRD5 := Lib.hid hr5
  have HO5 := Lib.hid (HO4.out.only ho5 (fun b hb => ⟨by omega, by omega⟩))
  clear hr5 ho5 HT5
  have HC6 := Lib.hid (CheckRecord_c w5 0 A3 c3 ps (HT.out.later HB5.out) (HO5.out.keep (fun b hb => by omega) (fun _ _ => rfl)) HP.out.1 HP.out.2)
  rw [HF.out] at HC6
  go_wp2_with fail
  refine HC6.out.mono ?_
  rintro e w6 ⟨rfl, hb6⟩
  have hz6 := hb6.size
  have HB6 := Lib.hid hb6
  obtain ⟨r0, r1, r2, r3, r4⟩ := two_cell ((hb6.block _ (by omega)).trans HR05.out)
  obtain ⟨s0, s1, s2, s3, s4⟩ := two_cell ((hb6.block _ (by omega)).trans HP5.out)
  obtain ⟨t0, t1, t2, t3, t4⟩ := two_cell ((hb6.block _ (by omega)).trans HRD5.out)
  have n1 : ¬ w.heap.size = w1.heap.size := by omega
  have n2 : ¬ w1.heap.size = w.heap.size := by omega
  have n3 : ¬ w.heap.size = w2.heap.size := by omega
  have n4 : ¬ w2.heap.size = w.heap.size := by omega
  have n5 : ¬ w1.heap.size = w2.heap.size := by omega
  have n6 : ¬ w2.heap.size = w1.heap.size := by omega
  clear hb6 HC6
  go_wp2_with fail
  have hrw : RecAt (w6.setCell ⟨w1.heap.size, 1, none⟩ (.int .i64 0)) w.heap.size 0 none 0 0 := (Below.heap_setCell _ _ _ _ (show w.heap.size ≠ w1.heap.size by omega)).trans ((HB6.out.block _ (by omega)).trans HR05.out)
  have z0 := (two_cell (two_set0 (x := .int .i64 0) hrw)).1
  have z1 := (two_cell (two_set1 (x := .slice A3 ps.length c3) (two_set0 (x := .int .i64 0) hrw))).2.1
  refine bodyPost_ret (v := .tuple #[.agg #[.int .i64 0, .slice A3 ps.length c3], .int .i64 0]) (by simp [results, Tryd.results80, go_sem, z0, z1]) rfl ?_
  refine ⟨A3, c3, rfl, ?_, by repeat (first | exact bThen HB5.out HB6.out | apply Below.drew | apply bSet | exact Nat.le_refl _ | exact Nat.le_of_lt hz1)⟩
  exact ((HO5.out.keep (S' := fun b => w2.heap.size < b ∧ b < w3.heap.size) (fun _ hb => hb) (fun b hb => HB6.out.block b (by omega))).keep (fun b hb => by simp [World.setCell]; omega) (fun b hb => ((Below.heap_setCell _ _ _ _ (show b ≠ w.heap.size by omega)).trans (Below.heap_setCell _ _ _ _ (show b ≠ w.heap.size by omega))).trans (Below.heap_setCell _ _ _ _ (show b ≠ w1.heap.size by omega))))
set_option maxHeartbeats 2000000 in
theorem DecodeRecord_ng (w : World) (A : Option Addr) (c : Nat) (bs : List UInt8) (hs : Sl (· < w.heap.size) w 1 A bs.length (bs.map byteV)) (hl : bs.length ≤ 50000) (_HT : Hid (Tabs w)) (l1 : List UInt8) (f1 : Int) (ep : Int) (_e1 : (ep == 0) = false)
    (HX : Hid (readNum bs 0 = (ep, l1, f1))) (g : Int) (HG : Hid (endFault l1 f1 = g)) (_g0 : (g == 0) = false) :
    Calls Tryd.prog 80 #[.slice A bs.length c] w (RetRec w 0 [] g) := by
  have e0 : decide ((50000 : Int) < (bs.length : Int)) = false := by simp; omega
  go_enter Tryd.func80, Tryd.ntmps80
  go_wp2_with fail
  refine (CloneBytes_c _ A c bs (Sl.later hs (by repeat (first | exact Below.refl _ _ | apply bGrow | apply bAlloc | apply Below.drew | apply bDrewN | apply bIter))) (by omega)).mono ?_
  rintro e w1 ⟨A1, c1, rfl, ho1, hb1⟩
  have HS1 := Lib.hid (own_sl ho1)
  have HC1 := Lib.hid (own_cap ho1)
  have HB1 := Lib.hid (box_below' hb1)
  have HR0 := Lib.hid (show RecAt w1 w.heap.size 0 none 0 0 by unfold RecAt; rw [hb1.block w.heap.size (by simp)]; show (w.heap.push _)[w.heap.size]? = _; simp)
  have hz1 : w.heap.size < w1.heap.size := by have := hb1.size; simp at this; omega
  clear ho1 hb1
  obtain ⟨WR, hWR⟩ : ∃ WR, WR = w1.alloc (.cells #[.slice A1 bs.length c1, .int .i64 0] 141) := ⟨_, rfl⟩
  have HRd := Lib.hid (show Rd WR w1.heap.size bs 0 by rw [hWR]; exact Rd.fresh w1 A1 bs c1 HS1.out HC1.out.1 HC1.out.2)
  have hzR : WR.heap.size = w1.heap.size + 1 := by rw [hWR]; simp
  have HBR := Lib.hid (show Below w1.heap.size w1 WR by rw [hWR]; exact bAlloc (Below.refl _ _) _)
  have HWR := Lib.hid hWR
  have HT1 := Lib.hid (rtake_all WR w1.heap.size bs 0 HRd.out)
  rw [HX.out] at HT1
  clear hWR
  go_wp2_with fail
  rw [← HWR.out]
  refine HT1.out.mono ?_
  rintro e w2 ⟨rfl, hr2, ho2⟩
  try dsimp only at hr2
  have hz2 := ho2.size
  have HR2 := Lib.hid hr2
  have HR02 := Lib.hid (show RecAt w2 w.heap.size 0 none 0 0 from (ho2.block _ (by omega) (by omega)).trans ((HBR.out.block _ hz1).trans HR0.out))
  have HB2 := Lib.hid (show Below w.heap.size w w2 from bThen HB1.out ((HBR.out).trans (ho2.below (Nat.le_refl _) (by omega))))
  clear hr2 ho2 HT1
  obtain ⟨WA, hWA⟩ : ∃ WA, WA = w2.alloc (.cells #[.int .i64 ep, .slice none 0 0] 132) := ⟨_, rfl⟩
  have hzA : WA.heap.size = w2.heap.size + 1 := by rw [hWA]; simp
  have hba : Below w2.heap.size w2 WA := by rw [hWA]; exact bAlloc (Below.refl _ _) _
  have HRA := Lib.hid (HR2.out.later hba)
  have HR0A := Lib.hid (show RecAt WA w.heap.size 0 none 0 0 from (hba.block _ (by omega)).trans HR02.out)
  have HBA := Lib.hid (bThen HB2.out hba)
  have HPA := Lib.hid (show RecAt WA w2.heap.size ep none 0 0 by rw [hWA]; show (w2.heap.push _)[w2.heap.size]? = _; simp)
  have HWA := Lib.hid hWA
  clear hba hWA
  obtain ⟨W4, hW4⟩ : ∃ W4, W4 = WA := ⟨_, rfl⟩
  have hz4 : W4.heap.size = WA.heap.size := by rw [hW4]
  have HP4 := Lib.hid (show RecAt W4 w2.heap.size ep none 0 0 by rw [hW4]; exact HPA.out)
  have HR4 := Lib.hid (show Rd W4 w1.heap.size l1 f1 by rw [hW4]; exact HRA.out)
  have HR04 := Lib.hid (show RecAt W4 w.heap.size 0 none 0 0 by rw [hW4]; exact HR0A.out)
  have HB4 := Lib.hid (show Below w.heap.size w W4 by rw [hW4]; exact HBA.out)
  have HW4 := Lib.hid hW4
  clear hW4
  go_wp2_with fail
  rw [← HWA.out, ← HW4.out]
  have HT5 := Lib.hid (rend_c W4 w1.heap.size l1 f1 HR4.out)
  rw [HG.out] at HT5
  refine HT5.out.mono ?_
  rintro e w5 ⟨rfl, ⟨l5, A5, c5, hr5, _, _⟩, ho5⟩
  have hz5 := ho5.size
  have HP5 := Lib.hid (show RecAt w5 w2.heap.size ep none 0 0 from (ho5.block _ (by omega) (by omega)).trans HP4.out)
  have HR05 := Lib.hid (show RecAt w5 w.heap.size 0 none 0 0 from (ho5.block _ (by omega) (by omega)).trans HR04.out)
  have HB5 := Lib.hid (show Below w.heap.size w w5 from HB4.out.trans (ho5.below (by omega) (by omega)))
  obtain ⟨r0, r1, r2, r3, r4⟩ := two_cell HR05.out
  obtain ⟨s0, s1, s2, s3, s4⟩ := two_cell HP5.out
  obtain ⟨t0, t1, t2, t3, t4⟩ := two_cell hr5
  have HRD5 := Lib.hid hr5
  clear hr5 ho5 HT5
  have n1 : ¬ w.heap.size = w1.heap.size := by omega
  have n2 : ¬ w1.heap.size = w.heap.size := by omega
  go_wp2_with fail
  go_region
  go_wp2
  have hrw : RecAt w5 w.heap.size 0 none 0 0 := HR05.out
  have z0 := (two_cell (two_set0 (x := .int .i64 0) hrw)).1
  have z1 := (two_cell (two_set1 (x := .slice none 0 0) (two_set0 (x := .int .i64 0) hrw))).2.1
  refine bodyPost_ret (v := .tuple #[.agg #[.int .i64 0, .slice none 0 0], .int .i64 g]) (by simp [results, Tryd.results80, go_sem, z0, z1]) rfl ?_
  exact ⟨none, 0, rfl, Sl.nil, by repeat (first | exact HB5.out | apply Below.drew | apply bSet | exact Nat.le_refl _ | exact Nat.le_of_lt hz1)⟩
set_option maxHeartbeats 2000000 in
theorem DecodeRecord_nf (w : World) (A : Option Addr) (c : Nat) (bs : List UInt8) (hs : Sl (· < w.heap.size) w 1 A bs.length (bs.map byteV)) (hl : bs.length ≤ 50000) (HT : Hid (Tabs w)) (l1 : List UInt8) (f1 : Int) (ep : Int) (_e1 : (ep == 0) = false)
    (HX : Hid (readNum bs 0 = (ep, l1, f1))) (HG : Hid (endFault l1 f1 = 0)) (er : Int) (HF : Hid (recordFault ep [] = er)) (_er0 : (er == 0) = false) :
    Calls Tryd.prog 80 #[.slice A bs.length c] w (RetRec w 0 [] er) := by
  have e0 : decide ((50000 : Int) < (bs.length : Int)) = false := by simp; omega
  go_enter Tryd.func80, Tryd.ntmps80
  go_wp2_with fail
  refine (CloneBytes_c _ A c bs (Sl.later hs (by repeat (first | exact Below.refl _ _ | apply bGrow | apply bAlloc | apply Below.drew | apply bDrewN | apply bIter))) (by omega)).mono ?_
  rintro e w1 ⟨A1, c1, rfl, ho1, hb1⟩
  have HS1 := Lib.hid (own_sl ho1)
  have HC1 := Lib.hid (own_cap ho1)
  have HB1 := Lib.hid (box_below' hb1)
  have HR0 := Lib.hid (show RecAt w1 w.heap.size 0 none 0 0 by unfold RecAt; rw [hb1.block w.heap.size (by simp)]; show (w.heap.push _)[w.heap.size]? = _; simp)
  have hz1 : w.heap.size < w1.heap.size := by have := hb1.size; simp at this; omega
  clear ho1 hb1
  obtain ⟨WR, hWR⟩ : ∃ WR, WR = w1.alloc (.cells #[.slice A1 bs.length c1, .int .i64 0] 141) := ⟨_, rfl⟩
  have HRd := Lib.hid (show Rd WR w1.heap.size bs 0 by rw [hWR]; exact Rd.fresh w1 A1 bs c1 HS1.out HC1.out.1 HC1.out.2)
  have hzR : WR.heap.size = w1.heap.size + 1 := by rw [hWR]; simp
  have HBR := Lib.hid (show Below w1.heap.size w1 WR by rw [hWR]; exact bAlloc (Below.refl _ _) _)
  have HWR := Lib.hid hWR
  have HT1 := Lib.hid (rtake_all WR w1.heap.size bs 0 HRd.out)
  rw [HX.out] at HT1
  clear hWR
  go_wp2_with fail
  rw [← HWR.out]
  refine HT1.out.mono ?_
  rintro e w2 ⟨rfl, hr2, ho2⟩
  try dsimp only at hr2
  have hz2 := ho2.size
  have HR2 := Lib.hid hr2
  have HR02 := Lib.hid (show RecAt w2 w.heap.size 0 none 0 0 from (ho2.block _ (by omega) (by omega)).trans ((HBR.out.block _ hz1).trans HR0.out))
  have HB2 := Lib.hid (show Below w.heap.size w w2 from bThen HB1.out ((HBR.out).trans (ho2.below (Nat.le_refl _) (by omega))))
  clear hr2 ho2 HT1
  obtain ⟨WA, hWA⟩ : ∃ WA, WA = w2.alloc (.cells #[.int .i64 ep, .slice none 0 0] 132) := ⟨_, rfl⟩
  have hzA : WA.heap.size = w2.heap.size + 1 := by rw [hWA]; simp
  have hba : Below w2.heap.size w2 WA := by rw [hWA]; exact bAlloc (Below.refl _ _) _
  have HRA := Lib.hid (HR2.out.later hba)
  have HR0A := Lib.hid (show RecAt WA w.heap.size 0 none 0 0 from (hba.block _ (by omega)).trans HR02.out)
  have HBA := Lib.hid (bThen HB2.out hba)
  have HPA := Lib.hid (show RecAt WA w2.heap.size ep none 0 0 by rw [hWA]; show (w2.heap.push _)[w2.heap.size]? = _; simp)
  have HWA := Lib.hid hWA
  clear hba hWA
  obtain ⟨W4, hW4⟩ : ∃ W4, W4 = WA := ⟨_, rfl⟩
  have hz4 : W4.heap.size = WA.heap.size := by rw [hW4]
  have HP4 := Lib.hid (show RecAt W4 w2.heap.size ep none 0 0 by rw [hW4]; exact HPA.out)
  have HR4 := Lib.hid (show Rd W4 w1.heap.size l1 f1 by rw [hW4]; exact HRA.out)
  have HR04 := Lib.hid (show RecAt W4 w.heap.size 0 none 0 0 by rw [hW4]; exact HR0A.out)
  have HB4 := Lib.hid (show Below w.heap.size w W4 by rw [hW4]; exact HBA.out)
  have HW4 := Lib.hid hW4
  clear hW4
  go_wp2_with fail
  rw [← HWA.out, ← HW4.out]
  have HT5 := Lib.hid (rend_c W4 w1.heap.size l1 f1 HR4.out)
  rw [HG.out] at HT5
  refine HT5.out.mono ?_
  rintro e w5 ⟨rfl, ⟨l5, A5, c5, hr5, _, _⟩, ho5⟩
  have hz5 := ho5.size
  have HP5 := Lib.hid (show RecAt w5 w2.heap.size ep none 0 0 from (ho5.block _ (by omega) (by omega)).trans HP4.out)
  have HR05 := Lib.hid (show RecAt w5 w.heap.size 0 none 0 0 from (ho5.block _ (by omega) (by omega)).trans HR04.out)
  have HB5 := Lib.hid (show Below w.heap.size w w5 from HB4.out.trans (ho5.below (by omega) (by omega)))
  obtain ⟨r0, r1, r2, r3, r4⟩ := two_cell HR05.out
  obtain ⟨s0, s1, s2, s3, s4⟩ := two_cell HP5.out
  obtain ⟨t0, t1, t2, t3, t4⟩ := two_cell hr5
  have HRD5 := Lib.hid hr5
  clear hr5 ho5 HT5
  have HC6 := Lib.hid (CheckRecord_c w5 ep none 0 [] (HT.out.later HB5.out) (Sl.nil) (by simp) (by simp))
  rw [HF.out] at HC6
  go_wp2_with fail
  refine HC6.out.mono ?_
  rintro e w6 ⟨rfl, hb6⟩
  have hz6 := hb6.size
  have HB6 := Lib.hid hb6
  obtain ⟨r0, r1, r2, r3, r4⟩ := two_cell ((hb6.block _ (by omega)).trans HR05.out)
  obtain ⟨s0, s1, s2, s3, s4⟩ := two_cell ((hb6.block _ (by omega)).trans HP5.out)
  obtain ⟨t0, t1, t2, t3, t4⟩ := two_cell ((hb6.block _ (by omega)).trans HRD5.out)
  have n1 : ¬ w.heap.size = w1.heap.size := by omega
  have n2 : ¬ w1.heap.size = w.heap.size := by omega
  have n3 : ¬ w.heap.size = w2.heap.size := by omega
  have n4 : ¬ w2.heap.size = w.heap.size := by omega
  have n5 : ¬ w1.heap.size = w2.heap.size := by omega
  have n6 : ¬ w2.heap.size = w1.heap.size := by omega
  clear hb6 HC6
  go_wp2_with fail
  go_region
  go_wp2
  have hrw : RecAt (w6.setCell ⟨w1.heap.size, 1, none⟩ (.int .i64 er)) w.heap.size 0 none 0 0 := (Below.heap_setCell _ _ _ _ (show w.heap.size ≠ w1.heap.size by omega)).trans ((HB6.out.block _ (by omega)).trans HR05.out)
  have z0 := (two_cell (two_set0 (x := .int .i64 0) hrw)).1
  have z1 := (two_cell (two_set1 (x := .slice none 0 0) (two_set0 (x := .int .i64 0) hrw))).2.1
  refine bodyPost_ret (v := .tuple #[.agg #[.int .i64 0, .slice none 0 0], .int .i64 er]) (by simp [results, Tryd.results80, go_sem, z0, z1]) rfl ?_
  exact ⟨none, 0, rfl, Sl.nil, by repeat (first | exact bThen HB5.out HB6.out | apply Below.drew | apply bSet | exact Nat.le_refl _ | exact Nat.le_of_lt hz1)⟩
set_option maxHeartbeats 2000000 in
theorem DecodeRecord_no (w : World) (A : Option Addr) (c : Nat) (bs : List UInt8) (hs : Sl (· < w.heap.size) w 1 A bs.length (bs.map byteV)) (hl : bs.length ≤ 50000) (HT : Hid (Tabs w)) (l1 : List UInt8) (f1 : Int) (ep : Int) (_e1 : (ep == 0) = false)
    (HX : Hid (readNum bs 0 = (ep, l1, f1))) (HG : Hid (endFault l1 f1 = 0)) (HF : Hid (recordFault ep [] = 0)) :
    Calls Tryd.prog 80 #[.slice A bs.length c] w (RetRec w ep [] 0) := by
  have e0 : decide ((50000 : Int) < (bs.length : Int)) = false := by simp; omega
  go_enter Tryd.func80, Tryd.ntmps80
  go_wp2_with fail
  refine (CloneBytes_c _ A c bs (Sl.later hs (by repeat (first | exact Below.refl _ _ | apply bGrow | apply bAlloc | apply Below.drew | apply bDrewN | apply bIter))) (by omega)).mono ?_
  rintro e w1 ⟨A1, c1, rfl, ho1, hb1⟩
  have HS1 := Lib.hid (own_sl ho1)
  have HC1 := Lib.hid (own_cap ho1)
  have HB1 := Lib.hid (box_below' hb1)
  have HR0 := Lib.hid (show RecAt w1 w.heap.size 0 none 0 0 by unfold RecAt; rw [hb1.block w.heap.size (by simp)]; show (w.heap.push _)[w.heap.size]? = _; simp)
  have hz1 : w.heap.size < w1.heap.size := by have := hb1.size; simp at this; omega
  clear ho1 hb1
  obtain ⟨WR, hWR⟩ : ∃ WR, WR = w1.alloc (.cells #[.slice A1 bs.length c1, .int .i64 0] 141) := ⟨_, rfl⟩
  have HRd := Lib.hid (show Rd WR w1.heap.size bs 0 by rw [hWR]; exact Rd.fresh w1 A1 bs c1 HS1.out HC1.out.1 HC1.out.2)
  have hzR : WR.heap.size = w1.heap.size + 1 := by rw [hWR]; simp
  have HBR := Lib.hid (show Below w1.heap.size w1 WR by rw [hWR]; exact bAlloc (Below.refl _ _) _)
  have HWR := Lib.hid hWR
  have HT1 := Lib.hid (rtake_all WR w1.heap.size bs 0 HRd.out)
  rw [HX.out] at HT1
  clear hWR
  go_wp2_with fail
  rw [← HWR.out]
  refine HT1.out.mono ?_
  rintro e w2 ⟨rfl, hr2, ho2⟩
  try dsimp only at hr2
  have hz2 := ho2.size
  have HR2 := Lib.hid hr2
  have HR02 := Lib.hid (show RecAt w2 w.heap.size 0 none 0 0 from (ho2.block _ (by omega) (by omega)).trans ((HBR.out.block _ hz1).trans HR0.out))
  have HB2 := Lib.hid (show Below w.heap.size w w2 from bThen HB1.out ((HBR.out).trans (ho2.below (Nat.le_refl _) (by omega))))
  clear hr2 ho2 HT1
  obtain ⟨WA, hWA⟩ : ∃ WA, WA = w2.alloc (.cells #[.int .i64 ep, .slice none 0 0] 132) := ⟨_, rfl⟩
  have hzA : WA.heap.size = w2.heap.size + 1 := by rw [hWA]; simp
  have hba : Below w2.heap.size w2 WA := by rw [hWA]; exact bAlloc (Below.refl _ _) _
  have HRA := Lib.hid (HR2.out.later hba)
  have HR0A := Lib.hid (show RecAt WA w.heap.size 0 none 0 0 from (hba.block _ (by omega)).trans HR02.out)
  have HBA := Lib.hid (bThen HB2.out hba)
  have HPA := Lib.hid (show RecAt WA w2.heap.size ep none 0 0 by rw [hWA]; show (w2.heap.push _)[w2.heap.size]? = _; simp)
  have HWA := Lib.hid hWA
  clear hba hWA
  obtain ⟨W4, hW4⟩ : ∃ W4, W4 = WA := ⟨_, rfl⟩
  have hz4 : W4.heap.size = WA.heap.size := by rw [hW4]
  have HP4 := Lib.hid (show RecAt W4 w2.heap.size ep none 0 0 by rw [hW4]; exact HPA.out)
  have HR4 := Lib.hid (show Rd W4 w1.heap.size l1 f1 by rw [hW4]; exact HRA.out)
  have HR04 := Lib.hid (show RecAt W4 w.heap.size 0 none 0 0 by rw [hW4]; exact HR0A.out)
  have HB4 := Lib.hid (show Below w.heap.size w W4 by rw [hW4]; exact HBA.out)
  have HW4 := Lib.hid hW4
  clear hW4
  go_wp2_with fail
  rw [← HWA.out, ← HW4.out]
  have HT5 := Lib.hid (rend_c W4 w1.heap.size l1 f1 HR4.out)
  rw [HG.out] at HT5
  refine HT5.out.mono ?_
  rintro e w5 ⟨rfl, ⟨l5, A5, c5, hr5, _, _⟩, ho5⟩
  have hz5 := ho5.size
  have HP5 := Lib.hid (show RecAt w5 w2.heap.size ep none 0 0 from (ho5.block _ (by omega) (by omega)).trans HP4.out)
  have HR05 := Lib.hid (show RecAt w5 w.heap.size 0 none 0 0 from (ho5.block _ (by omega) (by omega)).trans HR04.out)
  have HB5 := Lib.hid (show Below w.heap.size w w5 from HB4.out.trans (ho5.below (by omega) (by omega)))
  obtain ⟨r0, r1, r2, r3, r4⟩ := two_cell HR05.out
  obtain ⟨s0, s1, s2, s3, s4⟩ := two_cell HP5.out
  obtain ⟨t0, t1, t2, t3, t4⟩ := two_cell hr5
  have HRD5 := Lib.hid hr5
  clear hr5 ho5 HT5
  have HC6 := Lib.hid (CheckRecord_c w5 ep none 0 [] (HT.out.later HB5.out) (Sl.nil) (by simp) (by simp))
  rw [HF.out] at HC6
  go_wp2_with fail
  refine HC6.out.mono ?_
  rintro e w6 ⟨rfl, hb6⟩
  have hz6 := hb6.size
  have HB6 := Lib.hid hb6
  obtain ⟨r0, r1, r2, r3, r4⟩ := two_cell ((hb6.block _ (by omega)).trans HR05.out)
  obtain ⟨s0, s1, s2, s3, s4⟩ := two_cell ((hb6.block _ (by omega)).trans HP5.out)
  obtain ⟨t0, t1, t2, t3, t4⟩ := two_cell ((hb6.block _ (by omega)).trans HRD5.out)
  have n1 : ¬ w.heap.size = w1.heap.size := by omega
  have n2 : ¬ w1.heap.size = w.heap.size := by omega
  have n3 : ¬ w.heap.size = w2.heap.size := by omega
  have n4 : ¬ w2.heap.size = w.heap.size := by omega
  have n5 : ¬ w1.heap.size = w2.heap.size := by omega
  have n6 : ¬ w2.heap.size = w1.heap.size := by omega
  clear hb6 HC6
  go_wp2_with fail
  have hrw : RecAt (w6.setCell ⟨w1.heap.size, 1, none⟩ (.int .i64 0)) w.heap.size 0 none 0 0 := (Below.heap_setCell _ _ _ _ (show w.heap.size ≠ w1.heap.size by omega)).trans ((HB6.out.block _ (by omega)).trans HR05.out)
  have z0 := (two_cell (two_set0 (x := .int .i64 ep) hrw)).1
  have z1 := (two_cell (two_set1 (x := .slice none 0 0) (two_set0 (x := .int .i64 ep) hrw))).2.1
  refine bodyPost_ret (v := .tuple #[.agg #[.int .i64 ep, .slice none 0 0], .int .i64 0]) (by simp [results, Tryd.results80, go_sem, z0, z1]) rfl ?_
  refine ⟨none, 0, rfl, ?_, by repeat (first | exact bThen HB5.out HB6.out | apply Below.drew | apply bSet | exact Nat.le_refl _ | exact Nat.le_of_lt hz1)⟩
  exact Sl.nil
end Go.Proofs.YtieofljkgmkaiaaDoor
