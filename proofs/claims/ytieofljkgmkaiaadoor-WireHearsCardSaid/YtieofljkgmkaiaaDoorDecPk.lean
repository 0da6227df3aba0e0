/-
  Contract of wire.DecodePacket, leaf by leaf.
-/
import Derived.Test.YtieofljkgmkaiaaDoorRows
import Derived.Test.YtieofljkgmkaiaaDoorPkSt
import Derived.Test.YtieofljkgmkaiaaDoorPackets
import Derived.Test.YtieofljkgmkaiaaDoorWireA
import Derived.Test.YtieofljkgmkaiaaDoorFlat
import Derived.BigRegion
namespace Go.Proofs.YtieofljkgmkaiaaDoor
open Go.ChangeShapes Go.WideShapes Go.ChangeAt Go.RowKit
set_option maxRecDepth 100000
theorem DecodePacket_big (w : World) (A : Option Addr) (c : Nat) (bs : List UInt8) (hl : 50000 < bs.length) :
    Calls Tryd.prog 38 #[.slice A bs.length c] w (RetPk w (noPacket, 1)) := by
  have e0 : decide ((50000 : Int) < (bs.length : Int)) = true := by simp; omega
  go_enter Tryd.func38, Tryd.ntmps38
  go_wp2_with fail
  refine bodyPost_ret (v := .tuple #[packetV 0 0 false 0 0 0 0 none 0 0 ⟨#[]⟩, .int .i64 1]) (by simp [results, Tryd.results38, go_sem]) rfl ?_
  exact ⟨none, 0, rfl, Sl.nil, (by repeat (first | exact Below.refl _ _ | apply bGrow | apply bAlloc | apply Below.drew | apply bDrewN | apply bIter))⟩
set_option maxHeartbeats 2000000 in
theorem DecodePacket_bg (w : World) (A : Option Addr) (c : Nat) (bs : List UInt8) (hs : Sl (· < w.heap.size) w 1 A bs.length (bs.map byteV)) (hl : bs.length ≤ 50000) (_HT : Hid (Tabs w)) (l1 l2 l3 : List UInt8) (f1 f2 f3 ep ak : Int)
    (HX : Hid (readNum bs 0 = (ep, l1, f1))) (HY : Hid (readNum l1 f1 = (ak, l2, f2))) (HZ : Hid (readNum l2 f2 = (0, l3, f3))) (g : Int) (HG : Hid (endFault l3 f3 = g)) (_g0 : (g == 0) = false) :
    Calls Tryd.prog 38 #[.slice A bs.length c] w (RetPk w (noPacket, g)) := by
  have e0 : decide ((50000 : Int) < (bs.length : Int)) = false := by simp; omega
  go_enter Tryd.func38, Tryd.ntmps38
  go_wp2_with fail
  refine (CloneBytes_c _ A c bs (Sl.later hs (by repeat (first | exact Below.refl _ _ | apply bGrow | apply bAlloc | apply Below.drew | apply bDrewN | apply bIter))) (by omega)).mono ?_
  rintro e w1 ⟨A1, c1, rfl, ho1, hb1⟩
  have HS1 := Lib.hid (own_sl ho1)
  have HC1 := Lib.hid (own_cap ho1)
  have HB1 := Lib.hid (box_below' hb1)
  have HR0 := Lib.hid (show PacketAt w1 w.heap.size 0 0 false 0 0 0 0 none 0 0 ⟨#[]⟩ from (hb1.block w.heap.size (by simp)).trans (heap_alloc_new _ _))
  have hz1 : w.heap.size < w1.heap.size := by have := hb1.size; simp at this; omega
  clear ho1 hb1
  obtain ⟨WR, hWR⟩ : ∃ WR, WR = w1.alloc (.cells #[.slice A1 bs.length c1, .int .i64 0] 141) := ⟨_, rfl⟩
  obtain ⟨B, hB⟩ : ∃ B, B = w1.heap.size := ⟨_, rfl⟩
  have HBE := Lib.hid hB
  have HRd := Lib.hid (show Rd WR B bs 0 by rw [hWR, hB]; exact Rd.fresh w1 A1 bs c1 HS1.out HC1.out.1 HC1.out.2)
  have hzR : WR.heap.size = B + 1 := by rw [hWR, hB]; simp
  have kR : Below w1.heap.size w1 WR := by rw [hWR]; exact bAlloc (Below.refl _ _) _
  have HRR := Lib.hid (show PacketAt WR w.heap.size 0 0 false 0 0 0 0 none 0 0 ⟨#[]⟩ from (kR.block _ hz1).trans HR0.out)
  have HBR := Lib.hid (bThen HB1.out kR)
  have HWR := Lib.hid hWR
  have hRB : w.heap.size < B := by omega
  have HT1 := Lib.hid (rtake_all WR B bs 0 HRd.out)
  rw [HX.out] at HT1
  clear hWR kR hB
  go_wp2_with fail
  rw [← HWR.out, ← HBE.out]
  refine HT1.out.mono ?_
  rintro e w2 ⟨rfl, hr2, ho2⟩
  try dsimp only at hr2
  have hz2 := ho2.size
  obtain ⟨WA, hWA⟩ : ∃ WA, WA = w2.alloc (.cells #[.int .i64 ep, .int .i64 0, .bool false, .int .i64 0, .int .i64 0, .int .i64 0, .int .i64 0, .slice none 0 0, .string ⟨#[]⟩] 60) := ⟨_, rfl⟩
  obtain ⟨P, hP⟩ : ∃ P, P = w2.heap.size := ⟨_, rfl⟩
  have HPE := Lib.hid hP
  have kA : Below w2.heap.size w2 WA := by rw [hWA]; exact bAlloc (Below.refl _ _) _
  have HRA := Lib.hid (hr2.later kA)
  have HDA := Lib.hid (show DecP w WA B P #[.int .i64 ep, .int .i64 0, .bool false, .int .i64 0, .int .i64 0, .int .i64 0, .int .i64 0, .slice none 0 0, .string ⟨#[]⟩] none [] from ⟨⟨hRB, by omega, by omega, by rw [hWA, hP]; simp⟩, (kA.block _ (by omega)).trans ((ho2.block _ (by omega) (by omega)).trans HRR.out), by rw [hWA, hP]; exact heap_alloc_new _ _, Sl.nil, bThen (HBR.out.trans (ho2.below (base := w.heap.size) (by omega) (by omega))) kA⟩)
  have HWA := Lib.hid hWA
  have HT2 := Lib.hid (rtake_all WA B l1 f1 HRA.out)
  rw [HY.out] at HT2
  clear hr2 ho2 HT1 hWA kA hP
  go_wp2_with fail
  rw [← HWA.out]
  try rw [← HPE.out]
  refine HT2.out.mono ?_
  rintro e w3 ⟨rfl, hr3, ho3⟩
  try dsimp only at hr3
  have HD3 := Lib.hid (HDA.out.only ho3)
  obtain ⟨W3, hW3⟩ : ∃ W3, W3 = w3.setCell ⟨P, 3, none⟩ (.int .i64 ak) := ⟨_, rfl⟩
  have HDB := Lib.hid (show DecP w W3 B P #[.int .i64 ep, .int .i64 0, .bool false, .int .i64 ak, .int .i64 0, .int .i64 0, .int .i64 0, .slice none 0 0, .string ⟨#[]⟩] none [] by rw [hW3]; exact HD3.out.set 3 _)
  have hBP := HD3.out.ord.2.2.1
  have HRB := Lib.hid (show Rd W3 B l2 f2 by rw [hW3]; exact hr3.keep (fun k hk => Below.heap_setCell _ _ _ _ (show k ≠ P by omega)))
  have HW3 := Lib.hid hW3
  have HT3 := Lib.hid (rtake_all W3 B l2 f2 HRB.out)
  rw [HZ.out] at HT3
  obtain ⟨x0, x1, x2, x3, x4, x5, x6, x7, x8, y0, y1, y2, y3, y4, y5, y6, y7, y8, hxz⟩ := nine_cell HD3.out.p
  clear hr3 ho3 HT2 hW3
  go_wp2_with fail
  rw [← HW3.out]
  refine HT3.out.mono ?_
  rintro e w4 ⟨rfl, hr4, ho4⟩
  try dsimp only at hr4
  have HD4 := Lib.hid (HDB.out.only ho4)
  clear x0 x1 x2 x3 x4 x5 x6 x7 x8 y0 y1 y2 y3 y4 y5 y6 y7 y8 hxz
  obtain ⟨x0, x1, x2, x3, x4, x5, x6, x7, x8, y0, y1, y2, y3, y4, y5, y6, y7, y8, hxz⟩ := nine_cell HD4.out.p
  obtain ⟨W4, hW4⟩ : ∃ W4, W4 = (w4.setCell ⟨P, 1, none⟩ (.int .i64 0)).setCell ⟨P, 2, none⟩ (.bool true) := ⟨_, rfl⟩
  have HDC := Lib.hid (show DecP w W4 B P #[.int .i64 ep, .int .i64 0, .bool true, .int .i64 ak, .int .i64 0, .int .i64 0, .int .i64 0, .slice none 0 0, .string ⟨#[]⟩] none [] by rw [hW4]; exact (HD4.out.set 1 _).set 2 _)
  have HRC := Lib.hid (show Rd W4 B l3 f3 by rw [hW4]; exact hr4.keep (fun k hk => (Below.heap_setCell _ _ _ _ (show k ≠ P by omega)).trans (Below.heap_setCell _ _ _ _ (show k ≠ P by omega))))
  have HW4 := Lib.hid hW4
  clear hr4 ho4 HT3 hW4
  have HT5 := Lib.hid (rend_c W4 B l3 f3 HRC.out)
  rw [HG.out] at HT5
  go_wp2_with fail
  rw [← HW4.out]
  refine HT5.out.mono ?_
  rintro e w6 ⟨rfl, ⟨l6, A6, c6, hr6, _, _⟩, ho6⟩
  have HD6 := Lib.hid (HDC.out.only ho6)
  have HR6 := Lib.hid hr6
  have hBP6 := HD6.out.ord
  obtain ⟨r0, r1, r2, r3, r4, r5, r6, r7, r8, s0, s1, s2, s3, s4, s5, s6, s7, s8, hrz⟩ := nine_cell HD6.out.r
  clear x0 x1 x2 x3 x4 x5 x6 x7 x8 y0 y1 y2 y3 y4 y5 y6 y7 y8 hxz
  obtain ⟨x0, x1, x2, x3, x4, x5, x6, x7, x8, y0, y1, y2, y3, y4, y5, y6, y7, y8, hxz⟩ := nine_cell HD6.out.p
  obtain ⟨t0, t1, t2, t3, t4⟩ := two_cell hr6
  have n1 : ¬ w.heap.size = B := by omega
  have n2 : ¬ B = w.heap.size := by omega
  have n3 : ¬ w.heap.size = P := by omega
  have n4 : ¬ P = w.heap.size := by omega
  have n5 : ¬ B = P := by omega
  have n6 : ¬ P = B := by omega
  clear hr6 ho6 HT5
  go_wp2_with fail
  go_region
  go_wp2
  obtain ⟨W9, hW9⟩ : ∃ W9, W9 = (((((((((w6.setCell ⟨w.heap.size, 0, none⟩ (.int .i64 0)).setCell ⟨w.heap.size, 1, none⟩ (.int .i64 0)).setCell ⟨w.heap.size, 2, none⟩ (.bool false)).setCell ⟨w.heap.size, 3, none⟩ (.int .i64 0)).setCell ⟨w.heap.size, 4, none⟩ (.int .i64 0)).setCell ⟨w.heap.size, 5, none⟩ (.int .i64 0)).setCell ⟨w.heap.size, 6, none⟩ (.int .i64 0)).setCell ⟨w.heap.size, 7, none⟩ (.slice none 0 0)).setCell ⟨w.heap.size, 8, none⟩ (.string ⟨#[]⟩)) := ⟨_, rfl⟩
  rw [← hW9]
  have hR9 : W9.heap[w.heap.size]? = some (.cells #[.int .i64 0, .int .i64 0, .bool false, .int .i64 0, .int .i64 0, .int .i64 0, .int .i64 0, .slice none 0 0, .string ⟨#[]⟩] 60 (0, 0)) := by rw [hW9]; exact nine_sets (x0 := .int .i64 0) (x1 := .int .i64 0) (x2 := .bool false) (x3 := .int .i64 0) (x4 := .int .i64 0) (x5 := .int .i64 0) (x6 := .int .i64 0) (x7 := .slice none 0 0) (x8 := .string ⟨#[]⟩) HD6.out.r
  have hO : Only w.heap.size w6 W9 := by rw [hW9]; exact (((((((((Only.set _ _ _)).trans (Only.set _ _ _)).trans (Only.set _ _ _)).trans (Only.set _ _ _)).trans (Only.set _ _ _)).trans (Only.set _ _ _)).trans (Only.set _ _ _)).trans (Only.set _ _ _)).trans (Only.set _ _ _)
  have hBz : Below w.heap.size w W9 := HD6.out.b.trans (hO.below (Nat.le_refl _) HD6.out.b.size)
  have hOp := HD6.out.op.moved (S' := fun b => w.heap.size ≤ b ∧ b < W9.heap.size) fun b hb => ⟨⟨by omega, Nat.lt_of_lt_of_le hb.2 hO.size⟩, hO.block b hb.2 (by omega)⟩
  clear hW9 r0 r1 r2 r3 r4 r5 r6 r7 r8 s0 s1 s2 s3 s4 s5 s6 s7 s8 hrz
  refine post_hide (fun G => G.heap[w.heap.size]? = some (.cells #[.int .i64 0, .int .i64 0, .bool false, .int .i64 0, .int .i64 0, .int .i64 0, .int .i64 0, .slice none 0 0, .string ⟨#[]⟩] 60 (0, 0)) ∧ True ∧ Below w.heap.size w G) ⟨hR9, trivial, Below.drew hBz⟩ ?_
  rintro G ⟨hRG, hOG, hBG⟩
  obtain ⟨r0, r1, r2, r3, r4, r5, r6, r7, r8, _, _, _, _, _, _, _, _, _, _⟩ := nine_cell hRG
  refine bodyPost_ret (v := .tuple #[packetV 0 0 false 0 0 0 0 none 0 0 ⟨#[]⟩, .int .i64 g]) (by simp [results, Tryd.results38, go_sem, r0, r1, r2, r3, r4, r5, r6, r7, r8]) rfl ?_
  exact ⟨none, 0, rfl, Sl.nil, hBG⟩
set_option maxHeartbeats 2000000 in
theorem DecodePacket_bf (w : World) (A : Option Addr) (c : Nat) (bs : List UInt8) (hs : Sl (· < w.heap.size) w 1 A bs.length (bs.map byteV)) (hl : bs.length ≤ 50000) (HT : Hid (Tabs w)) (l1 l2 l3 : List UInt8) (f1 f2 f3 ep ak : Int)
    (HX : Hid (readNum bs 0 = (ep, l1, f1))) (HY : Hid (readNum l1 f1 = (ak, l2, f2))) (HZ : Hid (readNum l2 f2 = (0, l3, f3))) (HG : Hid (endFault l3 f3 = 0)) (er : Int) (HF : Hid (packetFault ⟨ep, 0, true, ak, noFrame⟩ = er)) (_er0 : (er == 0) = false) :
    Calls Tryd.prog 38 #[.slice A bs.length c] w (RetPk w (noPacket, er)) := by
  have e0 : decide ((50000 : Int) < (bs.length : Int)) = false := by simp; omega
  go_enter Tryd.func38, Tryd.ntmps38
  go_wp2_with fail
  refine (CloneBytes_c _ A c bs (Sl.later hs (by repeat (first | exact Below.refl _ _ | apply bGrow | apply bAlloc | apply Below.drew | apply bDrewN | apply bIter))) (by omega)).mono ?_
  rintro e w1 ⟨A1, c1, rfl, ho1, hb1⟩
  have HS1 := Lib.hid (own_sl ho1)
  have HC1 := Lib.hid (own_cap ho1)
  have HB1 := Lib.hid (box_below' hb1)
  have HR0 := Lib.hid (show PacketAt w1 w.heap.size 0 0 false 0 0 0 0 none 0 0 ⟨#[]⟩ from (hb1.block w.heap.size (by simp)).trans (heap_alloc_new _ _))
  have hz1 : w.heap.size < w1.heap.size := by have := hb1.size; simp at this; omega
  clear ho1 hb1
  obtain ⟨WR, hWR⟩ : ∃ WR, WR = w1.alloc (.cells #[.slice A1 bs.length c1, .int .i64 0] 141) := ⟨_, rfl⟩
  obtain ⟨B, hB⟩ : ∃ B, B = w1.heap.size := ⟨_, rfl⟩
  have HBE := Lib.hid hB
  have HRd := Lib.hid (show Rd WR B bs 0 by rw [hWR, hB]; exact Rd.fresh w1 A1 bs c1 HS1.out HC1.out.1 HC1.out.2)
  have hzR : WR.heap.size = B + 1 := by rw [hWR, hB]; simp
  have kR : Below w1.heap.size w1 WR := by rw [hWR]; exact bAlloc (Below.refl _ _) _
  have HRR := Lib.hid (show PacketAt WR w.heap.size 0 0 false 0 0 0 0 none 0 0 ⟨#[]⟩ from (kR.block _ hz1).trans HR0.out)
  have HBR := Lib.hid (bThen HB1.out kR)
  have HWR := Lib.hid hWR
  have hRB : w.heap.size < B := by omega
  have HT1 := Lib.hid (rtake_all WR B bs 0 HRd.out)
  rw [HX.out] at HT1
  clear hWR kR hB
  go_wp2_with fail
  rw [← HWR.out, ← HBE.out]
  refine HT1.out.mono ?_
  rintro e w2 ⟨rfl, hr2, ho2⟩
  try dsimp only at hr2
  have hz2 := ho2.size
  obtain ⟨WA, hWA⟩ : ∃ WA, WA = w2.alloc (.cells #[.int .i64 ep, .int .i64 0, .bool false, .int .i64 0, .int .i64 0, .int .i64 0, .int .i64 0, .slice none 0 0, .string ⟨#[]⟩] 60) := ⟨_, rfl⟩
  obtain ⟨P, hP⟩ : ∃ P, P = w2.heap.size := ⟨_, rfl⟩
  have HPE := Lib.hid hP
  have kA : Below w2.heap.size w2 WA := by rw [hWA]; exact bAlloc (Below.refl _ _) _
  have HRA := Lib.hid (hr2.later kA)
  have HDA := Lib.hid (show DecP w WA B P #[.int .i64 ep, .int .i64 0, .bool false, .int .i64 0, .int .i64 0, .int .i64 0, .int .i64 0, .slice none 0 0, .string ⟨#[]⟩] none [] from ⟨⟨hRB, by omega, by omega, by rw [hWA, hP]; simp⟩, (kA.block _ (by omega)).trans ((ho2.block _ (by omega) (by omega)).trans HRR.out), by rw [hWA, hP]; exact heap_alloc_new _ _, Sl.nil, bThen (HBR.out.trans (ho2.below (base := w.heap.size) (by omega) (by omega))) kA⟩)
  have HWA := Lib.hid hWA
  have HT2 := Lib.hid (rtake_all WA B l1 f1 HRA.out)
  rw [HY.out] at HT2
  clear hr2 ho2 HT1 hWA kA hP
  go_wp2_with fail
  rw [← HWA.out]
  try rw [← HPE.out]
  refine HT2.out.mono ?_
  rintro e w3 ⟨rfl, hr3, ho3⟩
  try dsimp only at hr3
  have HD3 := Lib.hid (HDA.out.only ho3)
  obtain ⟨W3, hW3⟩ : ∃ W3, W3 = w3.setCell ⟨P, 3, none⟩ (.int .i64 ak) := ⟨_, rfl⟩
  have HDB := Lib.hid (show DecP w W3 B P #[.int .i64 ep, .int .i64 0, .bool false, .int .i64 ak, .int .i64 0, .int .i64 0, .int .i64 0, .slice none 0 0, .string ⟨#[]⟩] none [] by rw [hW3]; exact HD3.out.set 3 _)
  have hBP := HD3.out.ord.2.2.1
  have HRB := Lib.hid (show Rd W3 B l2 f2 by rw [hW3]; exact hr3.keep (fun k hk => Below.heap_setCell _ _ _ _ (show k ≠ P by omega)))
  have HW3 := Lib.hid hW3
  have HT3 := Lib.hid (rtake_all W3 B l2 f2 HRB.out)
  rw [HZ.out] at HT3
  obtain ⟨x0, x1, x2, x3, x4, x5, x6, x7, x8, y0, y1, y2, y3, y4, y5, y6, y7, y8, hxz⟩ := nine_cell HD3.out.p
  clear hr3 ho3 HT2 hW3
  go_wp2_with fail
  rw [← HW3.out]
  refine HT3.out.mono ?_
  rintro e w4 ⟨rfl, hr4, ho4⟩
  try dsimp only at hr4
  have HD4 := Lib.hid (HDB.out.only ho4)
  clear x0 x1 x2 x3 x4 x5 x6 x7 x8 y0 y1 y2 y3 y4 y5 y6 y7 y8 hxz
  obtain ⟨x0, x1, x2, x3, x4, x5, x6, x7, x8, y0, y1, y2, y3, y4, y5, y6, y7, y8, hxz⟩ := nine_cell HD4.out.p
  obtain ⟨W4, hW4⟩ : ∃ W4, W4 = (w4.setCell ⟨P, 1, none⟩ (.int .i64 0)).setCell ⟨P, 2, none⟩ (.bool true) := ⟨_, rfl⟩
  have HDC := Lib.hid (show DecP w W4 B P #[.int .i64 ep, .int .i64 0, .bool true, .int .i64 ak, .int .i64 0, .int .i64 0, .int .i64 0, .slice none 0 0, .string ⟨#[]⟩] none [] by rw [hW4]; exact (HD4.out.set 1 _).set 2 _)
  have HRC := Lib.hid (show Rd W4 B l3 f3 by rw [hW4]; exact hr4.keep (fun k hk => (Below.heap_setCell _ _ _ _ (show k ≠ P by omega)).trans (Below.heap_setCell _ _ _ _ (show k ≠ P by omega))))
  have HW4 := Lib.hid hW4
  clear hr4 ho4 HT3 hW4
  have HT5 := Lib.hid (rend_c W4 B l3 f3 HRC.out)
  rw [HG.out] at HT5
  go_wp2_with fail
  rw [← HW4.out]
  refine HT5.out.mono ?_
  rintro e w6 ⟨rfl, ⟨l6, A6, c6, hr6, _, _⟩, ho6⟩
  have HD6 := Lib.hid (HDC.out.only ho6)
  have HR6 := Lib.hid hr6
  have hBP6 := HD6.out.ord
  obtain ⟨r0, r1, r2, r3, r4, r5, r6, r7, r8, s0, s1, s2, s3, s4, s5, s6, s7, s8, hrz⟩ := nine_cell HD6.out.r
  clear x0 x1 x2 x3 x4 x5 x6 x7 x8 y0 y1 y2 y3 y4 y5 y6 y7 y8 hxz
  obtain ⟨x0, x1, x2, x3, x4, x5, x6, x7, x8, y0, y1, y2, y3, y4, y5, y6, y7, y8, hxz⟩ := nine_cell HD6.out.p
  obtain ⟨t0, t1, t2, t3, t4⟩ := two_cell hr6
  have n1 : ¬ w.heap.size = B := by omega
  have n2 : ¬ B = w.heap.size := by omega
  have n3 : ¬ w.heap.size = P := by omega
  have n4 : ¬ P = w.heap.size := by omega
  have n5 : ¬ B = P := by omega
  have n6 : ¬ P = B := by omega
  clear hr6 ho6 HT5
  have HC6 := Lib.hid (CheckPacket_c w6 ep 0 true ak 0 0 0 none 0 [] ⟨#[]⟩ (HT.out.later HD6.out.b) (HD6.out.op.moved fun b hb => ⟨hb.2, rfl⟩) (by simp) (by simp) (by decide))
  rw [HF.out] at HC6
  go_wp2_with fail
  refine HC6.out.mono ?_
  rintro e w7 ⟨rfl, hb7⟩
  have HD7 := Lib.hid (HD6.out.later hb7)
  have HR7 := Lib.hid ((hb7.block _ (by omega)).trans HR6.out)
  clear r0 r1 r2 r3 r4 r5 r6 r7 r8 s0 s1 s2 s3 s4 s5 s6 s7 s8 hrz x0 x1 x2 x3 x4 x5 x6 x7 x8 y0 y1 y2 y3 y4 y5 y6 y7 y8 hxz t0 t1 t2 t3 t4
  obtain ⟨W7, hW7⟩ : ∃ W7, W7 = w7.setCell ⟨B, 1, none⟩ (.int .i64 er) := ⟨_, rfl⟩
  have HD8 := Lib.hid (show DecP w W7 B P #[.int .i64 ep, .int .i64 0, .bool true, .int .i64 ak, .int .i64 0, .int .i64 0, .int .i64 0, .slice none 0 0, .string ⟨#[]⟩] none [] by rw [hW7]; exact HD7.out.only (Only.set _ _ _))
  have HW7 := Lib.hid hW7
  obtain ⟨r0, r1, r2, r3, r4, r5, r6, r7, r8, s0, s1, s2, s3, s4, s5, s6, s7, s8, hrz⟩ := nine_cell HD7.out.r
  obtain ⟨x0, x1, x2, x3, x4, x5, x6, x7, x8, y0, y1, y2, y3, y4, y5, y6, y7, y8, hxz⟩ := nine_cell HD7.out.p
  obtain ⟨t0, t1, t2, t3, t4⟩ := two_cell HR7.out
  clear hb7 HC6 hW7
  go_wp2_with fail
  go_region
  go_wp2
  rw [← HW7.out]
  obtain ⟨W9, hW9⟩ : ∃ W9, W9 = (((((((((W7.setCell ⟨w.heap.size, 0, none⟩ (.int .i64 0)).setCell ⟨w.heap.size, 1, none⟩ (.int .i64 0)).setCell ⟨w.heap.size, 2, none⟩ (.bool false)).setCell ⟨w.heap.size, 3, none⟩ (.int .i64 0)).setCell ⟨w.heap.size, 4, none⟩ (.int .i64 0)).setCell ⟨w.heap.size, 5, none⟩ (.int .i64 0)).setCell ⟨w.heap.size, 6, none⟩ (.int .i64 0)).setCell ⟨w.heap.size, 7, none⟩ (.slice none 0 0)).setCell ⟨w.heap.size, 8, none⟩ (.string ⟨#[]⟩)) := ⟨_, rfl⟩
  rw [← hW9]
  have hR9 : W9.heap[w.heap.size]? = some (.cells #[.int .i64 0, .int .i64 0, .bool false, .int .i64 0, .int .i64 0, .int .i64 0, .int .i64 0, .slice none 0 0, .string ⟨#[]⟩] 60 (0, 0)) := by rw [hW9]; exact nine_sets (x0 := .int .i64 0) (x1 := .int .i64 0) (x2 := .bool false) (x3 := .int .i64 0) (x4 := .int .i64 0) (x5 := .int .i64 0) (x6 := .int .i64 0) (x7 := .slice none 0 0) (x8 := .string ⟨#[]⟩) HD8.out.r
  have hO : Only w.heap.size W7 W9 := by rw [hW9]; exact (((((((((Only.set _ _ _)).trans (Only.set _ _ _)).trans (Only.set _ _ _)).trans (Only.set _ _ _)).trans (Only.set _ _ _)).trans (Only.set _ _ _)).trans (Only.set _ _ _)).trans (Only.set _ _ _)).trans (Only.set _ _ _)
  have hBz : Below w.heap.size w W9 := HD8.out.b.trans (hO.below (Nat.le_refl _) HD8.out.b.size)
  have hOp := HD8.out.op.moved (S' := fun b => w.heap.size ≤ b ∧ b < W9.heap.size) fun b hb => ⟨⟨by omega, Nat.lt_of_lt_of_le hb.2 hO.size⟩, hO.block b hb.2 (by omega)⟩
  clear hW9 r0 r1 r2 r3 r4 r5 r6 r7 r8 s0 s1 s2 s3 s4 s5 s6 s7 s8 hrz
  refine post_hide (fun G => G.heap[w.heap.size]? = some (.cells #[.int .i64 0, .int .i64 0, .bool false, .int .i64 0, .int .i64 0, .int .i64 0, .int .i64 0, .slice none 0 0, .string ⟨#[]⟩] 60 (0, 0)) ∧ True ∧ Below w.heap.size w G) ⟨hR9, trivial, Below.drew hBz⟩ ?_
  rintro G ⟨hRG, hOG, hBG⟩
  obtain ⟨r0, r1, r2, r3, r4, r5, r6, r7, r8, _, _, _, _, _, _, _, _, _, _⟩ := nine_cell hRG
  refine bodyPost_ret (v := .tuple #[packetV 0 0 false 0 0 0 0 none 0 0 ⟨#[]⟩, .int .i64 er]) (by simp [results, Tryd.results38, go_sem, r0, r1, r2, r3, r4, r5, r6, r7, r8]) rfl ?_
  exact ⟨none, 0, rfl, Sl.nil, hBG⟩
set_option maxHeartbeats 2000000 in
theorem DecodePacket_bo (w : World) (A : Option Addr) (c : Nat) (bs : List UInt8) (hs : Sl (· < w.heap.size) w 1 A bs.length (bs.map byteV)) (hl : bs.length ≤ 50000) (HT : Hid (Tabs w)) (l1 l2 l3 : List UInt8) (f1 f2 f3 ep ak : Int)
    (HX : Hid (readNum bs 0 = (ep, l1, f1))) (HY : Hid (readNum l1 f1 = (ak, l2, f2))) (HZ : Hid (readNum l2 f2 = (0, l3, f3))) (HG : Hid (endFault l3 f3 = 0)) (HF : Hid (packetFault ⟨ep, 0, true, ak, noFrame⟩ = 0)) :
    Calls Tryd.prog 38 #[.slice A bs.length c] w (RetPk w (⟨ep, 0, true, ak, noFrame⟩, 0)) := by
  have e0 : decide ((50000 : Int) < (bs.length : Int)) = false := by simp; omega
  go_enter Tryd.func38, Tryd.ntmps38
  go_wp2_with fail
  refine (CloneBytes_c _ A c bs (Sl.later hs (by repeat (first | exact Below.refl _ _ | apply bGrow | apply bAlloc | apply Below.drew | apply bDrewN | apply bIter))) (by omega)).mono ?_
  rintro e w1 ⟨A1, c1, rfl, ho1, hb1⟩
  have HS1 := Lib.hid (own_sl ho1)
  have HC1 := Lib.hid (own_cap ho1)
  have HB1 := Lib.hid (box_below' hb1)
  have HR0 := Lib.hid (show PacketAt w1 w.heap.size 0 0 false 0 0 0 0 none 0 0 ⟨#[]⟩ from (hb1.block w.heap.size (by simp)).trans (heap_alloc_new _ _))
  have hz1 : w.heap.size < w1.heap.size := by have := hb1.size; simp at this; omega
  clear ho1 hb1
  obtain ⟨WR, hWR⟩ : ∃ WR, WR = w1.alloc (.cells #[.slice A1 bs.length c1, .int .i64 0] 141) := ⟨_, rfl⟩
  obtain ⟨B, hB⟩ : ∃ B, B = w1.heap.size := ⟨_, rfl⟩
  have HBE := Lib.hid hB
  have HRd := Lib.hid (show Rd WR B bs 0 by rw [hWR, hB]; exact Rd.fresh w1 A1 bs c1 HS1.out HC1.out.1 HC1.out.2)
  have hzR : WR.heap.size = B + 1 := by rw [hWR, hB]; simp
  have kR : Below w1.heap.size w1 WR := by rw [hWR]; exact bAlloc (Below.refl _ _) _
  have HRR := Lib.hid (show PacketAt WR w.heap.size 0 0 false 0 0 0 0 none 0 0 ⟨#[]⟩ from (kR.block _ hz1).trans HR0.out)
  have HBR := Lib.hid (bThen HB1.out kR)
  have HWR := Lib.hid hWR
  have hRB : w.heap.size < B := by omega
  have HT1 := Lib.hid (rtake_all WR B bs 0 HRd.out)
  rw [HX.out] at HT1
  clear hWR kR hB
  go_wp2_with fail
  rw [← HWR.out, ← HBE.out]
  refine HT1.out.mono ?_
  rintro e w2 ⟨rfl, hr2, ho2⟩
  try dsimp only at hr2
  have hz2 := ho2.size
  obtain ⟨WA, hWA⟩ : ∃ WA, WA = w2.alloc (.cells #[.int .i64 ep, .int .i64 0, .bool false, .int .i64 0, .int .i64 0, .int .i64 0, .int .i64 0, .slice none 0 0, .string ⟨#[]⟩] 60) := ⟨_, rfl⟩
  obtain ⟨P, hP⟩ : ∃ P, P = w2.heap.size := ⟨_, rfl⟩
  have HPE := Lib.hid hP
  have kA : Below w2.heap.size w2 WA := by rw [hWA]; exact bAlloc (Below.refl _ _) _
  have HRA := Lib.hid (hr2.later kA)
  have HDA := Lib.hid (show DecP w WA B P #[.int .i64 ep, .int .i64 0, .bool false, .int .i64 0, .int .i64 0, .int .i64 0, .int .i64 0, .slice none 0 0, .string ⟨#[]⟩] none [] from ⟨⟨hRB, by omega, by omega, by rw [hWA, hP]; simp⟩, (kA.block _ (by omega)).trans ((ho2.block _ (by omega) (by omega)).trans HRR.out), by rw [hWA, hP]; exact heap_alloc_new _ _, Sl.nil, bThen (HBR.out.trans (ho2.below (base := w.heap.size) (by omega) (by omega))) kA⟩)
  have HWA := Lib.hid hWA
  have HT2 := Lib.hid (rtake_all WA B l1 f1 HRA.out)
  rw [HY.out] at HT2
  clear hr2 ho2 HT1 hWA kA hP
  go_wp2_with fail
  rw [← HWA.out]
  try rw [← HPE.out]
  refine HT2.out.mono ?_
  rintro e w3 ⟨rfl, hr3, ho3⟩
  try dsimp only at hr3
  have HD3 := Lib.hid (HDA.out.only ho3)
  obtain ⟨W3, hW3⟩ : ∃ W3, W3 = w3.setCell ⟨P, 3, none⟩ (.int .i64 ak) := ⟨_, rfl⟩
  have HDB := Lib.hid (show DecP w W3 B P #[.int .i64 ep, .int .i64 0, .bool false, .int .i64 ak, .int .i64 0, .int .i64 0, .int .i64 0, .slice none 0 0, .string ⟨#[]⟩] none [] by rw [hW3]; exact HD3.out.set 3 _)
  have hBP := HD3.out.ord.2.2.1
  have HRB := Lib.hid (show Rd W3 B l2 f2 by rw [hW3]; exact hr3.keep (fun k hk => Below.heap_setCell _ _ _ _ (show k ≠ P by omega)))
  have HW3 := Lib.hid hW3
  have HT3 := Lib.hid (rtake_all W3 B l2 f2 HRB.out)
  rw [HZ.out] at HT3
  obtain ⟨x0, x1, x2, x3, x4, x5, x6, x7, x8, y0, y1, y2, y3, y4, y5, y6, y7, y8, hxz⟩ := nine_cell HD3.out.p
  clear hr3 ho3 HT2 hW3
  go_wp2_with fail
  rw [← HW3.out]
  refine HT3.out.mono ?_
  rintro e w4 ⟨rfl, hr4, ho4⟩
  try dsimp only at hr4
  have HD4 := Lib.hid (HDB.out.only ho4)
  clear x0 x1 x2 x3 x4 x5 x6 x7 x8 y0 y1 y2 y3 y4 y5 y6 y7 y8 hxz
  obtain ⟨x0, x1, x2, x3, x4, x5, x6, x7, x8, y0, y1, y2, y3, y4, y5, y6, y7, y8, hxz⟩ := nine_cell HD4.out.p
  obtain ⟨W4, hW4⟩ : ∃ W4, W4 = (w4.setCell ⟨P, 1, none⟩ (.int .i64 0)).setCell ⟨P, 2, none⟩ (.bool true) := ⟨_, rfl⟩
  have HDC := Lib.hid (show DecP w W4 B P #[.int .i64 ep, .int .i64 0, .bool true, .int .i64 ak, .int .i64 0, .int .i64 0, .int .i64 0, .slice none 0 0, .string ⟨#[]⟩] none [] by rw [hW4]; exact (HD4.out.set 1 _).set 2 _)
  have HRC := Lib.hid (show Rd W4 B l3 f3 by rw [hW4]; exact hr4.keep (fun k hk => (Below.heap_setCell _ _ _ _ (show k ≠ P by omega)).trans (Below.heap_setCell _ _ _ _ (show k ≠ P by omega))))
  have HW4 := Lib.hid hW4
  clear hr4 ho4 HT3 hW4
  have HT5 := Lib.hid (rend_c W4 B l3 f3 HRC.out)
  rw [HG.out] at HT5
  go_wp2_with fail
  rw [← HW4.out]
  refine HT5.out.mono ?_
  rintro e w6 ⟨rfl, ⟨l6, A6, c6, hr6, _, _⟩, ho6⟩
  have HD6 := Lib.hid (HDC.out.only ho6)
  have HR6 := Lib.hid hr6
  have hBP6 := HD6.out.ord
  obtain ⟨r0, r1, r2, r3, r4, r5, r6, r7, r8, s0, s1, s2, s3, s4, s5, s6, s7, s8, hrz⟩ := nine_cell HD6.out.r
  clear x0 x1 x2 x3 x4 x5 x6 x7 x8 y0 y1 y2 y3 y4 y5 y6 y7 y8 hxz
  obtain ⟨x0, x1, x2, x3, x4, x5, x6, x7, x8, y0, y1, y2, y3, y4, y5, y6, y7, y8, hxz⟩ := nine_cell HD6.out.p
  obtain ⟨t0, t1, t2, t3, t4⟩ := two_cell hr6
  have n1 : ¬ w.heap.size = B := by omega
  have n2 : ¬ B = w.heap.size := by omega
  have n3 : ¬ w.heap.size = P := by omega
  have n4 : ¬ P = w.heap.size := by omega
  have n5 : ¬ B = P := by omega
  have n6 : ¬ P = B := by omega
  clear hr6 ho6 HT5
  have HC6 := Lib.hid (CheckPacket_c w6 ep 0 true ak 0 0 0 none 0 [] ⟨#[]⟩ (HT.out.later HD6.out.b) (HD6.out.op.moved fun b hb => ⟨hb.2, rfl⟩) (by simp) (by simp) (by decide))
  rw [HF.out] at HC6
  go_wp2_with fail
  refine HC6.out.mono ?_
  rintro e w7 ⟨rfl, hb7⟩
  have HD7 := Lib.hid (HD6.out.later hb7)
  have HR7 := Lib.hid ((hb7.block _ (by omega)).trans HR6.out)
  clear r0 r1 r2 r3 r4 r5 r6 r7 r8 s0 s1 s2 s3 s4 s5 s6 s7 s8 hrz x0 x1 x2 x3 x4 x5 x6 x7 x8 y0 y1 y2 y3 y4 y5 y6 y7 y8 hxz t0 t1 t2 t3 t4
  obtain ⟨W7, hW7⟩ : ∃ W7, W7 = w7.setCell ⟨B, 1, none⟩ (.int .i64 0) := ⟨_, rfl⟩
  have HD8 := Lib.hid (show DecP w W7 B P #[.int .i64 ep, .int .i64 0, .bool true, .int .i64 ak, .int .i64 0, .int .i64 0, .int .i64 0, .slice none 0 0, .string ⟨#[]⟩] none [] by rw [hW7]; exact HD7.out.only (Only.set _ _ _))
  have HW7 := Lib.hid hW7
  obtain ⟨r0, r1, r2, r3, r4, r5, r6, r7, r8, s0, s1, s2, s3, s4, s5, s6, s7, s8, hrz⟩ := nine_cell HD7.out.r
  obtain ⟨x0, x1, x2, x3, x4, x5, x6, x7, x8, y0, y1, y2, y3, y4, y5, y6, y7, y8, hxz⟩ := nine_cell HD7.out.p
  obtain ⟨t0, t1, t2, t3, t4⟩ := two_cell HR7.out
  clear hb7 HC6 hW7
  go_wp2_with fail
  rw [← HW7.out]
  obtain ⟨W9, hW9⟩ : ∃ W9, W9 = (((((((((W7.setCell ⟨w.heap.size, 0, none⟩ (.int .i64 ep)).setCell ⟨w.heap.size, 1, none⟩ (.int .i64 0)).setCell ⟨w.heap.size, 2, none⟩ (.bool true)).setCell ⟨w.heap.size, 3, none⟩ (.int .i64 ak)).setCell ⟨w.heap.size, 4, none⟩ (.int .i64 0)).setCell ⟨w.heap.size, 5, none⟩ (.int .i64 0)).setCell ⟨w.heap.size, 6, none⟩ (.int .i64 0)).setCell ⟨w.heap.size, 7, none⟩ (.slice none 0 0)).setCell ⟨w.heap.size, 8, none⟩ (.string ⟨#[]⟩)) := ⟨_, rfl⟩
  rw [← hW9]
  have hR9 : W9.heap[w.heap.size]? = some (.cells #[.int .i64 ep, .int .i64 0, .bool true, .int .i64 ak, .int .i64 0, .int .i64 0, .int .i64 0, .slice none 0 0, .string ⟨#[]⟩] 60 (0, 0)) := by rw [hW9]; exact nine_sets (x0 := .int .i64 ep) (x1 := .int .i64 0) (x2 := .bool true) (x3 := .int .i64 ak) (x4 := .int .i64 0) (x5 := .int .i64 0) (x6 := .int .i64 0) (x7 := .slice none 0 0) (x8 := .string ⟨#[]⟩) HD8.out.r
  have hO : Only w.heap.size W7 W9 := by rw [hW9]; exact (((((((((Only.set _ _ _)).trans (Only.set _ _ _)).trans (Only.set _ _ _)).trans (Only.set _ _ _)).trans (Only.set _ _ _)).trans (Only.set _ _ _)).trans (Only.set _ _ _)).trans (Only.set _ _ _)).trans (Only.set _ _ _)
  have hBz : Below w.heap.size w W9 := HD8.out.b.trans (hO.below (Nat.le_refl _) HD8.out.b.size)
  have hOp := HD8.out.op.moved (S' := fun b => w.heap.size ≤ b ∧ b < W9.heap.size) fun b hb => ⟨⟨by omega, Nat.lt_of_lt_of_le hb.2 hO.size⟩, hO.block b hb.2 (by omega)⟩
  clear hW9 r0 r1 r2 r3 r4 r5 r6 r7 r8 s0 s1 s2 s3 s4 s5 s6 s7 s8 hrz
  refine post_hide (fun G => G.heap[w.heap.size]? = some (.cells #[.int .i64 ep, .int .i64 0, .bool true, .int .i64 ak, .int .i64 0, .int .i64 0, .int .i64 0, .slice none 0 0, .string ⟨#[]⟩] 60 (0, 0)) ∧ OpIn (fun b => w.heap.size ≤ b ∧ b < G.heap.size) G none [] ∧ Below w.heap.size w G) ⟨hR9, hOp, hBz⟩ ?_
  rintro G ⟨hRG, hOG, hBG⟩
  obtain ⟨r0, r1, r2, r3, r4, r5, r6, r7, r8, _, _, _, _, _, _, _, _, _, _⟩ := nine_cell hRG
  refine bodyPost_ret (v := .tuple #[packetV ep 0 true ak 0 0 0 none 0 0 ⟨#[]⟩, .int .i64 0]) (by simp [results, Tryd.results38, go_sem, r0, r1, r2, r3, r4, r5, r6, r7, r8]) rfl ?_
  exact ⟨none, 0, rfl, hOG, hBG⟩
set_option maxHeartbeats 2000000 in
theorem DecodePacket_fg (w : World) (A : Option Addr) (c : Nat) (bs : List UInt8) (hs : Sl (· < w.heap.size) w 1 A bs.length (bs.map byteV)) (hl : bs.length ≤ 50000) (_HT : Hid (Tabs w)) (l1 l2 l3 : List UInt8) (f1 f2 f3 ep ak : Int) (nu : Int) (_nb : (nu == 0) = false) (hl3 : l3.length ≤ 50000) (k h e : Int) (ps : List PartD) (s : ByteArray) (l4 : List UInt8) (f4 : Int)
    (HX : Hid (readNum bs 0 = (ep, l1, f1))) (HY : Hid (readNum l1 f1 = (ak, l2, f2))) (HZ : Hid (readNum l2 f2 = (nu, l3, f3))) (HR : Hid (readFrame l3 f3 = (⟨k, h, e, ps, s⟩, l4, f4))) (g : Int) (HG : Hid (endFault l4 f4 = g)) (_g0 : (g == 0) = false) :
    Calls Tryd.prog 38 #[.slice A bs.length c] w (RetPk w (noPacket, g)) := by
  have e0 : decide ((50000 : Int) < (bs.length : Int)) = false := by simp; omega
  go_enter Tryd.func38, Tryd.ntmps38
  go_wp2_with fail
  refine (CloneBytes_c _ A c bs (Sl.later hs (by repeat (first | exact Below.refl _ _ | apply bGrow | apply bAlloc | apply Below.drew | apply bDrewN | apply bIter))) (by omega)).mono ?_
  rintro e w1 ⟨A1, c1, rfl, ho1, hb1⟩
  have HS1 := Lib.hid (own_sl ho1)
  have HC1 := Lib.hid (own_cap ho1)
  have HB1 := Lib.hid (box_below' hb1)
  have HR0 := Lib.hid (show PacketAt w1 w.heap.size 0 0 false 0 0 0 0 none 0 0 ⟨#[]⟩ from (hb1.block w.heap.size (by simp)).trans (heap_alloc_new _ _))
  have hz1 : w.heap.size < w1.heap.size := by have := hb1.size; simp at this; omega
  clear ho1 hb1
  obtain ⟨WR, hWR⟩ : ∃ WR, WR = w1.alloc (.cells #[.slice A1 bs.length c1, .int .i64 0] 141) := ⟨_, rfl⟩
  obtain ⟨B, hB⟩ : ∃ B, B = w1.heap.size := ⟨_, rfl⟩
  have HBE := Lib.hid hB
  have HRd := Lib.hid (show Rd WR B bs 0 by rw [hWR, hB]; exact Rd.fresh w1 A1 bs c1 HS1.out HC1.out.1 HC1.out.2)
  have hzR : WR.heap.size = B + 1 := by rw [hWR, hB]; simp
  have kR : Below w1.heap.size w1 WR := by rw [hWR]; exact bAlloc (Below.refl _ _) _
  have HRR := Lib.hid (show PacketAt WR w.heap.size 0 0 false 0 0 0 0 none 0 0 ⟨#[]⟩ from (kR.block _ hz1).trans HR0.out)
  have HBR := Lib.hid (bThen HB1.out kR)
  have HWR := Lib.hid hWR
  have hRB : w.heap.size < B := by omega
  have HT1 := Lib.hid (rtake_all WR B bs 0 HRd.out)
  rw [HX.out] at HT1
  clear hWR kR hB
  go_wp2_with fail
  rw [← HWR.out, ← HBE.out]
  refine HT1.out.mono ?_
  rintro e w2 ⟨rfl, hr2, ho2⟩
  try dsimp only at hr2
  have hz2 := ho2.size
  obtain ⟨WA, hWA⟩ : ∃ WA, WA = w2.alloc (.cells #[.int .i64 ep, .int .i64 0, .bool false, .int .i64 0, .int .i64 0, .int .i64 0, .int .i64 0, .slice none 0 0, .string ⟨#[]⟩] 60) := ⟨_, rfl⟩
  obtain ⟨P, hP⟩ : ∃ P, P = w2.heap.size := ⟨_, rfl⟩
  have HPE := Lib.hid hP
  have kA : Below w2.heap.size w2 WA := by rw [hWA]; exact bAlloc (Below.refl _ _) _
  have HRA := Lib.hid (hr2.later kA)
  have HDA := Lib.hid (show DecP w WA B P #[.int .i64 ep, .int .i64 0, .bool false, .int .i64 0, .int .i64 0, .int .i64 0, .int .i64 0, .slice none 0 0, .string ⟨#[]⟩] none [] from ⟨⟨hRB, by omega, by omega, by rw [hWA, hP]; simp⟩, (kA.block _ (by omega)).trans ((ho2.block _ (by omega) (by omega)).trans HRR.out), by rw [hWA, hP]; exact heap_alloc_new _ _, Sl.nil, bThen (HBR.out.trans (ho2.below (base := w.heap.size) (by omega) (by omega))) kA⟩)
  have HWA := Lib.hid hWA
  have HT2 := Lib.hid (rtake_all WA B l1 f1 HRA.out)
  rw [HY.out] at HT2
  clear hr2 ho2 HT1 hWA kA hP
  go_wp2_with fail
  rw [← HWA.out]
  try rw [← HPE.out]
  refine HT2.out.mono ?_
  rintro e w3 ⟨rfl, hr3, ho3⟩
  try dsimp only at hr3
  have HD3 := Lib.hid (HDA.out.only ho3)
  obtain ⟨W3, hW3⟩ : ∃ W3, W3 = w3.setCell ⟨P, 3, none⟩ (.int .i64 ak) := ⟨_, rfl⟩
  have HDB := Lib.hid (show DecP w W3 B P #[.int .i64 ep, .int .i64 0, .bool false, .int .i64 ak, .int .i64 0, .int .i64 0, .int .i64 0, .slice none 0 0, .string ⟨#[]⟩] none [] by rw [hW3]; exact HD3.out.set 3 _)
  have hBP := HD3.out.ord.2.2.1
  have HRB := Lib.hid (show Rd W3 B l2 f2 by rw [hW3]; exact hr3.keep (fun k hk => Below.heap_setCell _ _ _ _ (show k ≠ P by omega)))
  have HW3 := Lib.hid hW3
  have HT3 := Lib.hid (rtake_all W3 B l2 f2 HRB.out)
  rw [HZ.out] at HT3
  obtain ⟨x0, x1, x2, x3, x4, x5, x6, x7, x8, y0, y1, y2, y3, y4, y5, y6, y7, y8, hxz⟩ := nine_cell HD3.out.p
  clear hr3 ho3 HT2 hW3
  go_wp2_with fail
  rw [← HW3.out]
  refine HT3.out.mono ?_
  rintro e w4 ⟨rfl, hr4, ho4⟩
  try dsimp only at hr4
  have HD4 := Lib.hid (HDB.out.only ho4)
  clear x0 x1 x2 x3 x4 x5 x6 x7 x8 y0 y1 y2 y3 y4 y5 y6 y7 y8 hxz
  obtain ⟨x0, x1, x2, x3, x4, x5, x6, x7, x8, y0, y1, y2, y3, y4, y5, y6, y7, y8, hxz⟩ := nine_cell HD4.out.p
  obtain ⟨W4, hW4⟩ : ∃ W4, W4 = (w4.setCell ⟨P, 1, none⟩ (.int .i64 nu)).setCell ⟨P, 2, none⟩ (.bool false) := ⟨_, rfl⟩
  have HDC := Lib.hid (show DecP w W4 B P #[.int .i64 ep, .int .i64 nu, .bool false, .int .i64 ak, .int .i64 0, .int .i64 0, .int .i64 0, .slice none 0 0, .string ⟨#[]⟩] none [] by rw [hW4]; exact (HD4.out.set 1 _).set 2 _)
  have HRC := Lib.hid (show Rd W4 B l3 f3 by rw [hW4]; exact hr4.keep (fun k hk => (Below.heap_setCell _ _ _ _ (show k ≠ P by omega)).trans (Below.heap_setCell _ _ _ _ (show k ≠ P by omega))))
  have HW4 := Lib.hid hW4
  clear hr4 ho4 HT3 hW4
  have HTF := Lib.hid (rframe_c W4 B l3 f3 HRC.out hl3)
  rw [HR.out] at HTF
  go_wp2_with fail
  rw [← HW4.out]
  refine HTF.out.mono ?_
  rintro e w5 ⟨A4, c4, rfl, hop, hr5, ho5⟩
  try dsimp only at hop hr5
  have HD5 := Lib.hid ((HDC.out.only ho5).with (hop.moved fun b hb => ⟨⟨by have := HDC.out.ord.2.2.2; omega, hb.2⟩, rfl⟩))
  clear x0 x1 x2 x3 x4 x5 x6 x7 x8 y0 y1 y2 y3 y4 y5 y6 y7 y8 hxz
  obtain ⟨x0, x1, x2, x3, x4, x5, x6, x7, x8, y0, y1, y2, y3, y4, y5, y6, y7, y8, hxz⟩ := nine_cell HD5.out.p
  obtain ⟨W5, hW5⟩ : ∃ W5, W5 = ((((w5.setCell ⟨P, 4, none⟩ (.int .i64 k)).setCell ⟨P, 5, none⟩ (.int .i64 h)).setCell ⟨P, 6, none⟩ (.int .i64 e)).setCell ⟨P, 7, none⟩ (.slice A4 ps.length c4)).setCell ⟨P, 8, none⟩ (.string s) := ⟨_, rfl⟩
  have HDE := Lib.hid (show DecP w W5 B P #[.int .i64 ep, .int .i64 nu, .bool false, .int .i64 ak, .int .i64 k, .int .i64 h, .int .i64 e, .slice A4 ps.length c4, .string s] A4 ps by rw [hW5]; exact ((((HD5.out.set 4 _).set 5 _).set 6 _).set 7 _).set 8 _)
  have HRE := Lib.hid (show Rd W5 B l4 f4 by rw [hW5]; exact hr5.keep (fun k hk => (Below.heap_setCell _ _ _ _ (show k ≠ P by omega)).trans ((Below.heap_setCell _ _ _ _ (show k ≠ P by omega)).trans ((Below.heap_setCell _ _ _ _ (show k ≠ P by omega)).trans ((Below.heap_setCell _ _ _ _ (show k ≠ P by omega)).trans (Below.heap_setCell _ _ _ _ (show k ≠ P by omega)))))))
  have HW5 := Lib.hid hW5
  clear hr5 ho5 hop HTF hW5
  have HT5 := Lib.hid (rend_c W5 B l4 f4 HRE.out)
  rw [HG.out] at HT5
  go_wp2_with fail
  rw [← HW5.out]
  refine HT5.out.mono ?_
  rintro e w6 ⟨rfl, ⟨l6, A6, c6, hr6, _, _⟩, ho6⟩
  have HD6 := Lib.hid (HDE.out.only ho6)
  have HR6 := Lib.hid hr6
  have hBP6 := HD6.out.ord
  obtain ⟨r0, r1, r2, r3, r4, r5, r6, r7, r8, s0, s1, s2, s3, s4, s5, s6, s7, s8, hrz⟩ := nine_cell HD6.out.r
  clear x0 x1 x2 x3 x4 x5 x6 x7 x8 y0 y1 y2 y3 y4 y5 y6 y7 y8 hxz
  obtain ⟨x0, x1, x2, x3, x4, x5, x6, x7, x8, y0, y1, y2, y3, y4, y5, y6, y7, y8, hxz⟩ := nine_cell HD6.out.p
  obtain ⟨t0, t1, t2, t3, t4⟩ := two_cell hr6
  have n1 : ¬ w.heap.size = B := by omega
  have n2 : ¬ B = w.heap.size := by omega
  have n3 : ¬ w.heap.size = P := by omega
  have n4 : ¬ P = w.heap.size := by omega
  have n5 : ¬ B = P := by omega
  have n6 : ¬ P = B := by omega
  clear hr6 ho6 HT5
  go_wp2_with fail
  go_region
  go_wp2
  obtain ⟨W9, hW9⟩ : ∃ W9, W9 = (((((((((w6.setCell ⟨w.heap.size, 0, none⟩ (.int .i64 0)).setCell ⟨w.heap.size, 1, none⟩ (.int .i64 0)).setCell ⟨w.heap.size, 2, none⟩ (.bool false)).setCell ⟨w.heap.size, 3, none⟩ (.int .i64 0)).setCell ⟨w.heap.size, 4, none⟩ (.int .i64 0)).setCell ⟨w.heap.size, 5, none⟩ (.int .i64 0)).setCell ⟨w.heap.size, 6, none⟩ (.int .i64 0)).setCell ⟨w.heap.size, 7, none⟩ (.slice none 0 0)).setCell ⟨w.heap.size, 8, none⟩ (.string ⟨#[]⟩)) := ⟨_, rfl⟩
  rw [← hW9]
  have hR9 : W9.heap[w.heap.size]? = some (.cells #[.int .i64 0, .int .i64 0, .bool false, .int .i64 0, .int .i64 0, .int .i64 0, .int .i64 0, .slice none 0 0, .string ⟨#[]⟩] 60 (0, 0)) := by rw [hW9]; exact nine_sets (x0 := .int .i64 0) (x1 := .int .i64 0) (x2 := .bool false) (x3 := .int .i64 0) (x4 := .int .i64 0) (x5 := .int .i64 0) (x6 := .int .i64 0) (x7 := .slice none 0 0) (x8 := .string ⟨#[]⟩) HD6.out.r
  have hO : Only w.heap.size w6 W9 := by rw [hW9]; exact (((((((((Only.set _ _ _)).trans (Only.set _ _ _)).trans (Only.set _ _ _)).trans (Only.set _ _ _)).trans (Only.set _ _ _)).trans (Only.set _ _ _)).trans (Only.set _ _ _)).trans (Only.set _ _ _)).trans (Only.set _ _ _)
  have hBz : Below w.heap.size w W9 := HD6.out.b.trans (hO.below (Nat.le_refl _) HD6.out.b.size)
  have hOp := HD6.out.op.moved (S' := fun b => w.heap.size ≤ b ∧ b < W9.heap.size) fun b hb => ⟨⟨by omega, Nat.lt_of_lt_of_le hb.2 hO.size⟩, hO.block b hb.2 (by omega)⟩
  clear hW9 r0 r1 r2 r3 r4 r5 r6 r7 r8 s0 s1 s2 s3 s4 s5 s6 s7 s8 hrz
  refine post_hide (fun G => G.heap[w.heap.size]? = some (.cells #[.int .i64 0, .int .i64 0, .bool false, .int .i64 0, .int .i64 0, .int .i64 0, .int .i64 0, .slice none 0 0, .string ⟨#[]⟩] 60 (0, 0)) ∧ True ∧ Below w.heap.size w G) ⟨hR9, trivial, Below.drew hBz⟩ ?_
  rintro G ⟨hRG, hOG, hBG⟩
  obtain ⟨r0, r1, r2, r3, r4, r5, r6, r7, r8, _, _, _, _, _, _, _, _, _, _⟩ := nine_cell hRG
  refine bodyPost_ret (v := .tuple #[packetV 0 0 false 0 0 0 0 none 0 0 ⟨#[]⟩, .int .i64 g]) (by simp [results, Tryd.results38, go_sem, r0, r1, r2, r3, r4, r5, r6, r7, r8]) rfl ?_
  exact ⟨none, 0, rfl, Sl.nil, hBG⟩
set_option maxHeartbeats 2000000 in
theorem DecodePacket_ff (w : World) (A : Option Addr) (c : Nat) (bs : List UInt8) (hs : Sl (· < w.heap.size) w 1 A bs.length (bs.map byteV)) (hl : bs.length ≤ 50000) (HT : Hid (Tabs w)) (l1 l2 l3 : List UInt8) (f1 f2 f3 ep ak : Int) (nu : Int) (_nb : (nu == 0) = false) (hl3 : l3.length ≤ 50000) (k h e : Int) (ps : List PartD) (s : ByteArray) (l4 : List UInt8) (f4 : Int)
    (HX : Hid (readNum bs 0 = (ep, l1, f1))) (HY : Hid (readNum l1 f1 = (ak, l2, f2))) (HZ : Hid (readNum l2 f2 = (nu, l3, f3))) (HR : Hid (readFrame l3 f3 = (⟨k, h, e, ps, s⟩, l4, f4))) (HP : Hid (ps.length ≤ 1048576 ∧ (∀ p ∈ ps, p.text.size ≤ 1048576) ∧ s.size ≤ 1048576)) (HG : Hid (endFault l4 f4 = 0)) (er : Int) (HF : Hid (packetFault ⟨ep, nu, false, ak, ⟨k, h, e, ps, s⟩⟩ = er)) (_er0 : (er == 0) = false) :
    Calls Tryd.prog 38 #[.slice A bs.length c] w (RetPk w (noPacket, er)) := by
  have e0 : decide ((50000 : Int) < (bs.length : Int)) = false := by simp; omega
  go_enter Tryd.func38, Tryd.ntmps38
  go_wp2_with fail
  refine (CloneBytes_c _ A c bs (Sl.later hs (by repeat (first | exact Below.refl _ _ | apply bGrow | apply bAlloc | apply Below.drew | apply bDrewN | apply bIter))) (by omega)).mono ?_
  rintro e w1 ⟨A1, c1, rfl, ho1, hb1⟩
  have HS1 := Lib.hid (own_sl ho1)
  have HC1 := Lib.hid (own_cap ho1)
  have HB1 := Lib.hid (box_below' hb1)
  have HR0 := Lib.hid (show PacketAt w1 w.heap.size 0 0 false 0 0 0 0 none 0 0 ⟨#[]⟩ from (hb1.block w.heap.size (by simp)).trans (heap_alloc_new _ _))
  have hz1 : w.heap.size < w1.heap.size := by have := hb1.size; simp at this; omega
  clear ho1 hb1
  obtain ⟨WR, hWR⟩ : ∃ WR, WR = w1.alloc (.cells #[.slice A1 bs.length c1, .int .i64 0] 141) := ⟨_, rfl⟩
  obtain ⟨B, hB⟩ : ∃ B, B = w1.heap.size := ⟨_, rfl⟩
  have HBE := Lib.hid hB
  have HRd := Lib.hid (show Rd WR B bs 0 by rw [hWR, hB]; exact Rd.fresh w1 A1 bs c1 HS1.out HC1.out.1 HC1.out.2)
  have hzR : WR.heap.size = B + 1 := by rw [hWR, hB]; simp
  have kR : Below w1.heap.size w1 WR := by rw [hWR]; exact bAlloc (Below.refl _ _) _
  have HRR := Lib.hid (show PacketAt WR w.heap.size 0 0 false 0 0 0 0 none 0 0 ⟨#[]⟩ from (kR.block _ hz1).trans HR0.out)
  have HBR := Lib.hid (bThen HB1.out kR)
  have HWR := Lib.hid hWR
  have hRB : w.heap.size < B := by omega
  have HT1 := Lib.hid (rtake_all WR B bs 0 HRd.out)
  rw [HX.out] at HT1
  clear hWR kR hB
  go_wp2_with fail
  rw [← HWR.out, ← HBE.out]
  refine HT1.out.mono ?_
  rintro e w2 ⟨rfl, hr2, ho2⟩
  try dsimp only at hr2
  have hz2 := ho2.size
  obtain ⟨WA, hWA⟩ : ∃ WA, WA = w2.alloc (.cells #[.int .i64 ep, .int .i64 0, .bool false, .int .i64 0, .int .i64 0, .int .i64 0, .int .i64 0, .slice none 0 0, .string ⟨#[]⟩] 60) := ⟨_, rfl⟩
  obtain ⟨P, hP⟩ : ∃ P, P = w2.heap.size := ⟨_, rfl⟩
  have HPE := Lib.hid hP
  have kA : Below w2.heap.size w2 WA := by rw [hWA]; exact bAlloc (Below.refl _ _) _
  have HRA := Lib.hid (hr2.later kA)
  have HDA := Lib.hid (show DecP w WA B P #[.int .i64 ep, .int .i64 0, .bool false, .int .i64 0, .int .i64 0, .int .i64 0, .int .i64 0, .slice none 0 0, .string ⟨#[]⟩] none [] from ⟨⟨hRB, by omega, by omega, by rw [hWA, hP]; simp⟩, (kA.block _ (by omega)).trans ((ho2.block _ (by omega) (by omega)).trans HRR.out), by rw [hWA, hP]; exact heap_alloc_new _ _, Sl.nil, bThen (HBR.out.trans (ho2.below (base := w.heap.size) (by omega) (by omega))) kA⟩)
  have HWA := Lib.hid hWA
  have HT2 := Lib.hid (rtake_all WA B l1 f1 HRA.out)
  rw [HY.out] at HT2
  clear hr2 ho2 HT1 hWA kA hP
  go_wp2_with fail
  rw [← HWA.out]
  try rw [← HPE.out]
  refine HT2.out.mono ?_
  rintro e w3 ⟨rfl, hr3, ho3⟩
  try dsimp only at hr3
  have HD3 := Lib.hid (HDA.out.only ho3)
  obtain ⟨W3, hW3⟩ : ∃ W3, W3 = w3.setCell ⟨P, 3, none⟩ (.int .i64 ak) := ⟨_, rfl⟩
  have HDB := Lib.hid (show DecP w W3 B P #[.int .i64 ep, .int .i64 0, .bool false, .int .i64 ak, .int .i64 0, .int .i64 0, .int .i64 0, .slice none 0 0, .string ⟨#[]⟩] none [] by rw [hW3]; exact HD3.out.set 3 _)
  have hBP := HD3.out.ord.2.2.1
  have HRB := Lib.hid (show Rd W3 B l2 f2 by rw [hW3]; exact hr3.keep (fun k hk => Below.heap_setCell _ _ _ _ (show k ≠ P by omega)))
  have HW3 := Lib.hid hW3
  have HT3 := Lib.hid (rtake_all W3 B l2 f2 HRB.out)
  rw [HZ.out] at HT3
  obtain ⟨x0, x1, x2, x3, x4, x5, x6, x7, x8, y0, y1, y2, y3, y4, y5, y6, y7, y8, hxz⟩ := nine_cell HD3.out.p
  clear hr3 ho3 HT2 hW3
  go_wp2_with fail
  rw [← HW3.out]
  refine HT3.out.mono ?_
  rintro e w4 ⟨rfl, hr4, ho4⟩
  try dsimp only at hr4
  have HD4 := Lib.hid (HDB.out.only ho4)
  clear x0 x1 x2 x3 x4 x5 x6 x7 x8 y0 y1 y2 y3 y4 y5 y6 y7 y8 hxz
  obtain ⟨x0, x1, x2, x3, x4, x5, x6, x7, x8, y0, y1, y2, y3, y4, y5, y6, y7, y8, hxz⟩ := nine_cell HD4.out.p
  obtain ⟨W4, hW4⟩ : ∃ W4, W4 = (w4.setCell ⟨P, 1, none⟩ (.int .i64 nu)).setCell ⟨P, 2, none⟩ (.bool false) := ⟨_, rfl⟩
  have HDC := Lib.hid (show DecP w W4 B P #[.int .i64 ep, .int .i64 nu, .bool false, .int .i64 ak, .int .i64 0, .int .i64 0, .int .i64 0, .slice none 0 0, .string ⟨#[]⟩] none [] by rw [hW4]; exact (HD4.out.set 1 _).set 2 _)
  have HRC := Lib.hid (show Rd W4 B l3 f3 by rw [hW4]; exact hr4.keep (fun k hk => (Below.heap_setCell _ _ _ _ (show k ≠ P by omega)).trans (Below.heap_setCell _ _ _ _ (show k ≠ P by omega))))
  have HW4 := Lib.hid hW4
  clear hr4 ho4 HT3 hW4
  have HTF := Lib.hid (rframe_c W4 B l3 f3 HRC.out hl3)
  rw [HR.out] at HTF
  go_wp2_with fail
  rw [← HW4.out]
  refine HTF.out.mono ?_
  rintro e w5 ⟨A4, c4, rfl, hop, hr5, ho5⟩
  try dsimp only at hop hr5
  have HD5 := Lib.hid ((HDC.out.only ho5).with (hop.moved fun b hb => ⟨⟨by have := HDC.out.ord.2.2.2; omega, hb.2⟩, rfl⟩))
  clear x0 x1 x2 x3 x4 x5 x6 x7 x8 y0 y1 y2 y3 y4 y5 y6 y7 y8 hxz
  obtain ⟨x0, x1, x2, x3, x4, x5, x6, x7, x8, y0, y1, y2, y3, y4, y5, y6, y7, y8, hxz⟩ := nine_cell HD5.out.p
  obtain ⟨W5, hW5⟩ : ∃ W5, W5 = ((((w5.setCell ⟨P, 4, none⟩ (.int .i64 k)).setCell ⟨P, 5, none⟩ (.int .i64 h)).setCell ⟨P, 6, none⟩ (.int .i64 e)).setCell ⟨P, 7, none⟩ (.slice A4 ps.length c4)).setCell ⟨P, 8, none⟩ (.string s) := ⟨_, rfl⟩
  have HDE := Lib.hid (show DecP w W5 B P #[.int .i64 ep, .int .i64 nu, .bool false, .int .i64 ak, .int .i64 k, .int .i64 h, .int .i64 e, .slice A4 ps.length c4, .string s] A4 ps by rw [hW5]; exact ((((HD5.out.set 4 _).set 5 _).set 6 _).set 7 _).set 8 _)
  have HRE := Lib.hid (show Rd W5 B l4 f4 by rw [hW5]; exact hr5.keep (fun k hk => (Below.heap_setCell _ _ _ _ (show k ≠ P by omega)).trans ((Below.heap_setCell _ _ _ _ (show k ≠ P by omega)).trans ((Below.heap_setCell _ _ _ _ (show k ≠ P by omega)).trans ((Below.heap_setCell _ _ _ _ (show k ≠ P by omega)).trans (Below.heap_setCell _ _ _ _ (show k ≠ P by omega)))))))
  have HW5 := Lib.hid hW5
  clear hr5 ho5 hop HTF hW5
  have HT5 := Lib.hid (rend_c W5 B l4 f4 HRE.out)
  rw [HG.out] at HT5
  go_wp2_with fail
  rw [← HW5.out]
  refine HT5.out.mono ?_
  rintro e w6 ⟨rfl, ⟨l6, A6, c6, hr6, _, _⟩, ho6⟩
  have HD6 := Lib.hid (HDE.out.only ho6)
  have HR6 := Lib.hid hr6
  have hBP6 := HD6.out.ord
  obtain ⟨r0, r1, r2, r3, r4, r5, r6, r7, r8, s0, s1, s2, s3, s4, s5, s6, s7, s8, hrz⟩ := nine_cell HD6.out.r
  clear x0 x1 x2 x3 x4 x5 x6 x7 x8 y0 y1 y2 y3 y4 y5 y6 y7 y8 hxz
  obtain ⟨x0, x1, x2, x3, x4, x5, x6, x7, x8, y0, y1, y2, y3, y4, y5, y6, y7, y8, hxz⟩ := nine_cell HD6.out.p
  obtain ⟨t0, t1, t2, t3, t4⟩ := two_cell hr6
  have n1 : ¬ w.heap.size = B := by omega
  have n2 : ¬ B = w.heap.size := by omega
  have n3 : ¬ w.heap.size = P := by omega
  have n4 : ¬ P = w.heap.size := by omega
  have n5 : ¬ B = P := by omega
  have n6 : ¬ P = B := by omega
  clear hr6 ho6 HT5
  have HC6 := Lib.hid (CheckPacket_c w6 ep nu false ak k h e A4 c4 ps s (HT.out.later HD6.out.b) (HD6.out.op.moved fun b hb => ⟨hb.2, rfl⟩) HP.out.1 HP.out.2.1 HP.out.2.2)
  rw [HF.out] at HC6
  go_wp2_with fail
  refine HC6.out.mono ?_
  rintro e w7 ⟨rfl, hb7⟩
  have HD7 := Lib.hid (HD6.out.later hb7)
  have HR7 := Lib.hid ((hb7.block _ (by omega)).trans HR6.out)
  clear r0 r1 r2 r3 r4 r5 r6 r7 r8 s0 s1 s2 s3 s4 s5 s6 s7 s8 hrz x0 x1 x2 x3 x4 x5 x6 x7 x8 y0 y1 y2 y3 y4 y5 y6 y7 y8 hxz t0 t1 t2 t3 t4
  obtain ⟨W7, hW7⟩ : ∃ W7, W7 = w7.setCell ⟨B, 1, none⟩ (.int .i64 er) := ⟨_, rfl⟩
  have HD8 := Lib.hid (show DecP w W7 B P #[.int .i64 ep, .int .i64 nu, .bool false, .int .i64 ak, .int .i64 k, .int .i64 h, .int .i64 e, .slice A4 ps.length c4, .string s] A4 ps by rw [hW7]; exact HD7.out.only (Only.set _ _ _))
  have HW7 := Lib.hid hW7
  obtain ⟨r0, r1, r2, r3, r4, r5, r6, r7, r8, s0, s1, s2, s3, s4, s5, s6, s7, s8, hrz⟩ := nine_cell HD7.out.r
  obtain ⟨x0, x1, x2, x3, x4, x5, x6, x7, x8, y0, y1, y2, y3, y4, y5, y6, y7, y8, hxz⟩ := nine_cell HD7.out.p
  obtain ⟨t0, t1, t2, t3, t4⟩ := two_cell HR7.out
  clear hb7 HC6 hW7
  go_wp2_with fail
  go_region
  go_wp2
  rw [← HW7.out]
  obtain ⟨W9, hW9⟩ : ∃ W9, W9 = (((((((((W7.setCell ⟨w.heap.size, 0, none⟩ (.int .i64 0)).setCell ⟨w.heap.size, 1, none⟩ (.int .i64 0)).setCell ⟨w.heap.size, 2, none⟩ (.bool false)).setCell ⟨w.heap.size, 3, none⟩ (.int .i64 0)).setCell ⟨w.heap.size, 4, none⟩ (.int .i64 0)).setCell ⟨w.heap.size, 5, none⟩ (.int .i64 0)).setCell ⟨w.heap.size, 6, none⟩ (.int .i64 0)).setCell ⟨w.heap.size, 7, none⟩ (.slice none 0 0)).setCell ⟨w.heap.size, 8, none⟩ (.string ⟨#[]⟩)) := ⟨_, rfl⟩
  rw [← hW9]
  have hR9 : W9.heap[w.heap.size]? = some (.cells #[.int .i64 0, .int .i64 0, .bool false, .int .i64 0, .int .i64 0, .int .i64 0, .int .i64 0, .slice none 0 0, .string ⟨#[]⟩] 60 (0, 0)) := by rw [hW9]; exact nine_sets (x0 := .int .i64 0) (x1 := .int .i64 0) (x2 := .bool false) (x3 := .int .i64 0) (x4 := .int .i64 0) (x5 := .int .i64 0) (x6 := .int .i64 0) (x7 := .slice none 0 0) (x8 := .string ⟨#[]⟩) HD8.out.r
  have hO : Only w.heap.size W7 W9 := by rw [hW9]; exact (((((((((Only.set _ _ _)).trans (Only.set _ _ _)).trans (Only.set _ _ _)).trans (Only.set _ _ _)).trans (Only.set _ _ _)).trans (Only.set _ _ _)).trans (Only.set _ _ _)).trans (Only.set _ _ _)).trans (Only.set _ _ _)
  have hBz : Below w.heap.size w W9 := HD8.out.b.trans (hO.below (Nat.le_refl _) HD8.out.b.size)
  have hOp := HD8.out.op.moved (S' := fun b => w.heap.size ≤ b ∧ b < W9.heap.size) fun b hb => ⟨⟨by omega, Nat.lt_of_lt_of_le hb.2 hO.size⟩, hO.block b hb.2 (by omega)⟩
  clear hW9 r0 r1 r2 r3 r4 r5 r6 r7 r8 s0 s1 s2 s3 s4 s5 s6 s7 s8 hrz
  refine post_hide (fun G => G.heap[w.heap.size]? = some (.cells #[.int .i64 0, .int .i64 0, .bool false, .int .i64 0, .int .i64 0, .int .i64 0, .int .i64 0, .slice none 0 0, .string ⟨#[]⟩] 60 (0, 0)) ∧ True ∧ Below w.heap.size w G) ⟨hR9, trivial, Below.drew hBz⟩ ?_
  rintro G ⟨hRG, hOG, hBG⟩
  obtain ⟨r0, r1, r2, r3, r4, r5, r6, r7, r8, _, _, _, _, _, _, _, _, _, _⟩ := nine_cell hRG
  refine bodyPost_ret (v := .tuple #[packetV 0 0 false 0 0 0 0 none 0 0 ⟨#[]⟩, .int .i64 er]) (by simp [results, Tryd.results38, go_sem, r0, r1, r2, r3, r4, r5, r6, r7, r8]) rfl ?_
  exact ⟨none, 0, rfl, Sl.nil, hBG⟩
set_option maxHeartbeats 2000000 in
theorem DecodePacket_fo (w : World) (A : Option Addr) (c : Nat) (bs : List UInt8) (hs : Sl (· < w.heap.size) w 1 A bs.length (bs.map byteV)) (hl : bs.length ≤ 50000) (HT : Hid (Tabs w)) (l1 l2 l3 : List UInt8) (f1 f2 f3 ep ak : Int) (nu : Int) (_nb : (nu == 0) = false) (hl3 : l3.length ≤ 50000) (k h e : Int) (ps : List PartD) (s : ByteArray) (l4 : List UInt8) (f4 : Int)
    (HX : Hid (readNum bs 0 = (ep, l1, f1))) (HY : Hid (readNum l1 f1 = (ak, l2, f2))) (HZ : Hid (readNum l2 f2 = (nu, l3, f3))) (HR : Hid (readFrame l3 f3 = (⟨k, h, e, ps, s⟩, l4, f4))) (HP : Hid (ps.length ≤ 1048576 ∧ (∀ p ∈ ps, p.text.size ≤ 1048576) ∧ s.size ≤ 1048576)) (HG : Hid (endFault l4 f4 = 0)) (HF : Hid (packetFault ⟨ep, nu, false, ak, ⟨k, h, e, ps, s⟩⟩ = 0)) :
    Calls Tryd.prog 38 #[.slice A bs.length c] w (RetPk w (⟨ep, nu, false, ak, ⟨k, h, e, ps, s⟩⟩, 0)) := by
  have e0 : decide ((50000 : Int) < (bs.length : Int)) = false := by simp; omega
  go_enter Tryd.func38, Tryd.ntmps38
  go_wp2_with fail
  refine (CloneBytes_c _ A c bs (Sl.later hs (by repeat (first | exact Below.refl _ _ | apply bGrow | apply bAlloc | apply Below.drew | apply bDrewN | apply bIter))) (by omega)).mono ?_
  rintro e w1 ⟨A1, c1, rfl, ho1, hb1⟩
  have HS1 := Lib.hid (own_sl ho1)
  have HC1 := Lib.hid (own_cap ho1)
  have HB1 := Lib.hid (box_below' hb1)
  have HR0 := Lib.hid (show PacketAt w1 w.heap.size 0 0 false 0 0 0 0 none 0 0 ⟨#[]⟩ from (hb1.block w.heap.size (by simp)).trans (heap_alloc_new _ _))
  have hz1 : w.heap.size < w1.heap.size := by have := hb1.size; simp at this; omega
  clear ho1 hb1
  obtain ⟨WR, hWR⟩ : ∃ WR, WR = w1.alloc (.cells #[.slice A1 bs.length c1, .int .i64 0] 141) := ⟨_, rfl⟩
  obtain ⟨B, hB⟩ : ∃ B, B = w1.heap.size := ⟨_, rfl⟩
  have HBE := Lib.hid hB
  have HRd := Lib.hid (show Rd WR B bs 0 by rw [hWR, hB]; exact Rd.fresh w1 A1 bs c1 HS1.out HC1.out.1 HC1.out.2)
  have hzR : WR.heap.size = B + 1 := by rw [hWR, hB]; simp
  have kR : Below w1.heap.size w1 WR := by rw [hWR]; exact bAlloc (Below.refl _ _) _
  have HRR := Lib.hid (show PacketAt WR w.heap.size 0 0 false 0 0 0 0 none 0 0 ⟨#[]⟩ from (kR.block _ hz1).trans HR0.out)
  have HBR := Lib.hid (bThen HB1.out kR)
  have HWR := Lib.hid hWR
  have hRB : w.heap.size < B := by omega
  have HT1 := Lib.hid (rtake_all WR B bs 0 HRd.out)
  rw [HX.out] at HT1
  clear hWR kR hB
  go_wp2_with fail
  rw [← HWR.out, ← HBE.out]
  refine HT1.out.mono ?_
  rintro e w2 ⟨rfl, hr2, ho2⟩
  try dsimp only at hr2
  have hz2 := ho2.size
  obtain ⟨WA, hWA⟩ : ∃ WA, WA = w2.alloc (.cells #[.int .i64 ep, .int .i64 0, .bool false, .int .i64 0, .int .i64 0, .int .i64 0, .int .i64 0, .slice none 0 0, .string ⟨#[]⟩] 60) := ⟨_, rfl⟩
  obtain ⟨P, hP⟩ : ∃ P, P = w2.heap.size := ⟨_, rfl⟩
  have HPE := Lib.hid hP
  have kA : Below w2.heap.size w2 WA := by rw [hWA]; exact bAlloc (Below.refl _ _) _
  have HRA := Lib.hid (hr2.later kA)
  have HDA := Lib.hid (show DecP w WA B P #[.int .i64 ep, .int .i64 0, .bool false, .int .i64 0, .int .i64 0, .int .i64 0, .int .i64 0, .slice none 0 0, .string ⟨#[]⟩] none [] from ⟨⟨hRB, by omega, by omega, by rw [hWA, hP]; simp⟩, (kA.block _ (by omega)).trans ((ho2.block _ (by omega) (by omega)).trans HRR.out), by rw [hWA, hP]; exact heap_alloc_new _ _, Sl.nil, bThen (HBR.out.trans (ho2.below (base := w.heap.size) (by omega) (by omega))) kA⟩)
  have HWA := Lib.hid hWA
  have HT2 := Lib.hid (rtake_all WA B l1 f1 HRA.out)
  rw [HY.out] at HT2
  clear hr2 ho2 HT1 hWA kA hP
  go_wp2_with fail
  rw [← HWA.out]
  try rw [← HPE.out]
  refine HT2.out.mono ?_
  rintro e w3 ⟨rfl, hr3, ho3⟩
  try dsimp only at hr3
  have HD3 := Lib.hid (HDA.out.only ho3)
  obtain ⟨W3, hW3⟩ : ∃ W3, W3 = w3.setCell ⟨P, 3, none⟩ (.int .i64 ak) := ⟨_, rfl⟩
  have HDB := Lib.hid (show DecP w W3 B P #[.int .i64 ep, .int .i64 0, .bool false, .int .i64 ak, .int .i64 0, .int .i64 0, .int .i64 0, .slice none 0 0, .string ⟨#[]⟩] none [] by rw [hW3]; exact HD3.out.set 3 _)
  have hBP := HD3.out.ord.2.2.1
  have HRB := Lib.hid (show Rd W3 B l2 f2 by rw [hW3]; exact hr3.keep (fun k hk => Below.heap_setCell _ _ _ _ (show k ≠ P by omega)))
  have HW3 := Lib.hid hW3
  have HT3 := Lib.hid (rtake_all W3 B l2 f2 HRB.out)
  rw [HZ.out] at HT3
  obtain ⟨x0, x1, x2, x3, x4, x5, x6, x7, x8, y0, y1, y2, y3, y4, y5, y6, y7, y8, hxz⟩ := nine_cell HD3.out.p
  clear hr3 ho3 HT2 hW3
  go_wp2_with fail
  rw [← HW3.out]
  refine HT3.out.mono ?_
  rintro e w4 ⟨rfl, hr4, ho4⟩
  try dsimp only at hr4
  have HD4 := Lib.hid (HDB.out.only ho4)
  clear x0 x1 x2 x3 x4 x5 x6 x7 x8 y0 y1 y2 y3 y4 y5 y6 y7 y8 hxz
  obtain ⟨x0, x1, x2, x3, x4, x5, x6, x7, x8, y0, y1, y2, y3, y4, y5, y6, y7, y8, hxz⟩ := nine_cell HD4.out.p
  obtain ⟨W4, hW4⟩ : ∃ W4, W4 = (w4.setCell ⟨P, 1, none⟩ (.int .i64 nu)).setCell ⟨P, 2, none⟩ (.bool false) := ⟨_, rfl⟩
  have HDC := Lib.hid (show DecP w W4 B P #[.int .i64 ep, .int .i64 nu, .bool false, .int .i64 ak, .int .i64 0, .int .i64 0, .int .i64 0, .slice none 0 0, .string ⟨#[]⟩] none [] by rw [hW4]; exact (HD4.out.set 1 _).set 2 _)
  have HRC := Lib.hid (show Rd W4 B l3 f3 by rw [hW4]; exact hr4.keep (fun k hk => (Below.heap_setCell _ _ _ _ (show k ≠ P by omega)).trans (Below.heap_setCell _ _ _ _ (show k ≠ P by omega))))
  have HW4 := Lib.hid hW4
  clear hr4 ho4 HT3 hW4
  have HTF := Lib.hid (rframe_c W4 B l3 f3 HRC.out hl3)
  rw [HR.out] at HTF
  go_wp2_with fail
  rw [← HW4.out]
  refine HTF.out.mono ?_
  rintro e w5 ⟨A4, c4, rfl, hop, hr5, ho5⟩
  try dsimp only at hop hr5
  have HD5 := Lib.hid ((HDC.out.only ho5).with (hop.moved fun b hb => ⟨⟨by have := HDC.out.ord.2.2.2; omega, hb.2⟩, rfl⟩))
  clear x0 x1 x2 x3 x4 x5 x6 x7 x8 y0 y1 y2 y3 y4 y5 y6 y7 y8 hxz
  obtain ⟨x0, x1, x2, x3, x4, x5, x6, x7, x8, y0, y1, y2, y3, y4, y5, y6, y7, y8, hxz⟩ := nine_cell HD5.out.p
  obtain ⟨W5, hW5⟩ : ∃ W5, W5 = ((((w5.setCell ⟨P, 4, none⟩ (.int .i64 k)).setCell ⟨P, 5, none⟩ (.int .i64 h)).setCell ⟨P, 6, none⟩ (.int .i64 e)).setCell ⟨P, 7, none⟩ (.slice A4 ps.length c4)).setCell ⟨P, 8, none⟩ (.string s) := ⟨_, rfl⟩
  have HDE := Lib.hid (show DecP w W5 B P #[.int .i64 ep, .int .i64 nu, .bool false, .int .i64 ak, .int .i64 k, .int .i64 h, .int .i64 e, .slice A4 ps.length c4, .string s] A4 ps by rw [hW5]; exact ((((HD5.out.set 4 _).set 5 _).set 6 _).set 7 _).set 8 _)
  have HRE := Lib.hid (show Rd W5 B l4 f4 by rw [hW5]; exact hr5.keep (fun k hk => (Below.heap_setCell _ _ _ _ (show k ≠ P by omega)).trans ((Below.heap_setCell _ _ _ _ (show k ≠ P by omega)).trans ((Below.heap_setCell _ _ _ _ (show k ≠ P by omega)).trans ((Below.heap_setCell _ _ _ _ (show k ≠ P by omega)).trans (Below.heap_setCell _ _ _ _ (show k ≠ P by omega)))))))
  have HW5 := Lib.hid hW5
  clear hr5 ho5 hop HTF hW5
  have HT5 := Lib.hid (rend_c W5 B l4 f4 HRE.out)
  rw [HG.out] at HT5
  go_wp2_with fail
  rw [← HW5.out]
  refine HT5.out.mono ?_
  rintro e w6 ⟨rfl, ⟨l6, A6, c6, hr6, _, _⟩, ho6⟩
  have HD6 := Lib.hid (HDE.out.only ho6)
  have HR6 := Lib.hid hr6
  have hBP6 := HD6.out.ord
  obtain ⟨r0, r1, r2, r3, r4, r5, r6, r7, r8, s0, s1, s2, s3, s4, s5, s6, s7, s8, hrz⟩ := nine_cell HD6.out.r
  clear x0 x1 x2 x3 x4 x5 x6 x7 x8 y0 y1 y2 y3 y4 y5 y6 y7 y8 hxz
  obtain ⟨x0, x1, x2, x3, x4, x5, x6, x7, x8, y0, y1, y2, y3, y4, y5, y6, y7, y8, hxz⟩ := nine_cell HD6.out.p
  obtain ⟨t0, t1, t2, t3, t4⟩ := two_cell hr6
  have n1 : ¬ w.heap.size = B := by omega
  have n2 : ¬ B = w.heap.size := by omega
  have n3 : ¬ w.heap.size = P := by omega
  have n4 : ¬ P = w.heap.size := by omega
  have n5 : ¬ B = P := by omega
  have n6 : ¬ P = B := by omega
  clear hr6 ho6 HT5
  have HC6 := Lib.hid (CheckPacket_c w6 ep nu false ak k h e A4 c4 ps s (HT.out.later HD6.out.b) (HD6.out.op.moved fun b hb => ⟨hb.2, rfl⟩) HP.out.1 HP.out.2.1 HP.out.2.2)
  rw [HF.out] at HC6
  go_wp2_with fail
  refine HC6.out.mono ?_
  rintro e w7 ⟨rfl, hb7⟩
  have HD7 := Lib.hid (HD6.out.later hb7)
  have HR7 := Lib.hid ((hb7.block _ (by omega)).trans HR6.out)
  clear r0 r1 r2 r3 r4 r5 r6 r7 r8 s0 s1 s2 s3 s4 s5 s6 s7 s8 hrz x0 x1 x2 x3 x4 x5 x6 x7 x8 y0 y1 y2 y3 y4 y5 y6 y7 y8 hxz t0 t1 t2 t3 t4
  obtain ⟨W7, hW7⟩ : ∃ W7, W7 = w7.setCell ⟨B, 1, none⟩ (.int .i64 0) := ⟨_, rfl⟩
  have HD8 := Lib.hid (show DecP w W7 B P #[.int .i64 ep, .int .i64 nu, .bool false, .int .i64 ak, .int .i64 k, .int .i64 h, .int .i64 e, .slice A4 ps.length c4, .string s] A4 ps by rw [hW7]; exact HD7.out.only (Only.set _ _ _))
  have HW7 := Lib.hid hW7
  obtain ⟨r0, r1, r2, r3, r4, r5, r6, r7, r8, s0, s1, s2, s3, s4, s5, s6, s7, s8, hrz⟩ := nine_cell HD7.out.r
  obtain ⟨x0, x1, x2, x3, x4, x5, x6, x7, x8, y0, y1, y2, y3, y4, y5, y6, y7, y8, hxz⟩ := nine_cell HD7.out.p
  obtain ⟨t0, t1, t2, t3, t4⟩ := two_cell HR7.out
  clear hb7 HC6 hW7
  go_wp2_with fail
  rw [← HW7.out]
  obtain ⟨W9, hW9⟩ : ∃ W9, W9 = (((((((((W7.setCell ⟨w.heap.size, 0, none⟩ (.int .i64 ep)).setCell ⟨w.heap.size, 1, none⟩ (.int .i64 nu)).setCell ⟨w.heap.size, 2, none⟩ (.bool false)).setCell ⟨w.heap.size, 3, none⟩ (.int .i64 ak)).setCell ⟨w.heap.size, 4, none⟩ (.int .i64 k)).setCell ⟨w.heap.size, 5, none⟩ (.int .i64 h)).setCell ⟨w.heap.size, 6, none⟩ (.int .i64 e)).setCell ⟨w.heap.size, 7, none⟩ (.slice A4 ps.length c4)).setCell ⟨w.heap.size, 8, none⟩ (.string s)) := ⟨_, rfl⟩
  rw [← hW9]
  have hR9 : W9.heap[w.heap.size]? = some (.cells #[.int .i64 ep, .int .i64 nu, .bool false, .int .i64 ak, .int .i64 k, .int .i64 h, .int .i64 e, .slice A4 ps.length c4, .string s] 60 (0, 0)) := by rw [hW9]; exact nine_sets (x0 := .int .i64 ep) (x1 := .int .i64 nu) (x2 := .bool false) (x3 := .int .i64 ak) (x4 := .int .i64 k) (x5 := .int .i64 h) (x6 := .int .i64 e) (x7 := .slice A4 ps.length c4) (x8 := .string s) HD8.out.r
  have hO : Only w.heap.size W7 W9 := by rw [hW9]; exact (((((((((Only.set _ _ _)).trans (Only.set _ _ _)).trans (Only.set _ _ _)).trans (Only.set _ _ _)).trans (Only.set _ _ _)).trans (Only.set _ _ _)).trans (Only.set _ _ _)).trans (Only.set _ _ _)).trans (Only.set _ _ _)
  have hBz : Below w.heap.size w W9 := HD8.out.b.trans (hO.below (Nat.le_refl _) HD8.out.b.size)
  have hOp := HD8.out.op.moved (S' := fun b => w.heap.size ≤ b ∧ b < W9.heap.size) fun b hb => ⟨⟨by omega, Nat.lt_of_lt_of_le hb.2 hO.size⟩, hO.block b hb.2 (by omega)⟩
  clear hW9 r0 r1 r2 r3 r4 r5 r6 r7 r8 s0 s1 s2 s3 s4 s5 s6 s7 s8 hrz
  refine post_hide (fun G => G.heap[w.heap.size]? = some (.cells #[.int .i64 ep, .int .i64 nu, .bool false, .int .i64 ak, .int .i64 k, .int .i64 h, .int .i64 e, .slice A4 ps.length c4, .string s] 60 (0, 0)) ∧ OpIn (fun b => w.heap.size ≤ b ∧ b < G.heap.size) G A4 ps ∧ Below w.heap.size w G) ⟨hR9, hOp, hBz⟩ ?_
  rintro G ⟨hRG, hOG, hBG⟩
  obtain ⟨r0, r1, r2, r3, r4, r5, r6, r7, r8, _, _, _, _, _, _, _, _, _, _⟩ := nine_cell hRG
  refine bodyPost_ret (v := .tuple #[packetV ep nu false ak k h e A4 ps.length c4 s, .int .i64 0]) (by simp [results, Tryd.results38, go_sem, r0, r1, r2, r3, r4, r5, r6, r7, r8]) rfl ?_
  exact ⟨A4, c4, rfl, hOG, hBG⟩
end Go.Proofs.YtieofljkgmkaiaaDoor
