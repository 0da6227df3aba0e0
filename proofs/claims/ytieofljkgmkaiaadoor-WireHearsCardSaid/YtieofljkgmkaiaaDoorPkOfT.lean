/-
  Contract of the reference's PacketOf: a whole text.
-/
import Derived.Test.YtieofljkgmkaiaaDoorRows
import Derived.Test.YtieofljkgmkaiaaDoorPkSt
import Derived.Test.YtieofljkgmkaiaaDoorEyeM
import Derived.Test.YtieofljkgmkaiaaDoorPackets
import Derived.BigRegion
namespace Go.Proofs.YtieofljkgmkaiaaDoor
open Go.ChangeShapes Go.WideShapes Go.ChangeAt Go.RowKit
set_option maxRecDepth 100000
set_option maxHeartbeats 2000000 in
theorem PacketOf_ta (w : World) (A : Option Addr) (c : Nat) (bs : List UInt8) (hs : Sl (· < w.heap.size) w 1 A bs.length (bs.map byteV)) (hc : bs.length ≤ c ∧ c ≤ 9223372036854775807) (hl : bs.length ≤ 50000) (_HT : Hid (Tabs w)) (l1 l2 l3 l4 l5 l6 : List UInt8) (f1 f2 f3 f4 f5 f6 ep ak : Int) (nu : Int) (_nb : (nu == 0) = false) (e : Int) (s : ByteArray) (_f0 : (f6 == 0) = false)
    (H0 : Hid (readNum bs 0 = (ep, l1, f1))) (H1 : Hid (readNum l1 f1 = (ak, l2, f2))) (H2 : Hid (readNum l2 f2 = (nu, l3, f3))) (H3 : Hid (readNum l3 f3 = (3, l4, f4))) (H4 : Hid (readNum l4 f4 = (e, l5, f5))) (H5 : Hid (readText l5 f5 = (s, l6, f6)))  :
    Calls Tryd.prog 40 #[.slice A bs.length c] w (RetPk w (noPacket, f6)) := by
  have e0 : decide ((50000 : Int) < (bs.length : Int)) = false := by simp; omega
  obtain ⟨W1, hW1⟩ : ∃ W1, W1 = w.alloc (.cells #[.int .i64 0, .int .i64 0, .bool false, .int .i64 0, .int .i64 0, .int .i64 0, .int .i64 0, .slice none 0 0, .string ⟨#[]⟩] 60) := ⟨_, rfl⟩
  obtain ⟨W2, hW2⟩ : ∃ W2, W2 = W1.alloc (.cells #[.slice A bs.length c, .int .i64 0, .int .i64 0] 146) := ⟨_, rfl⟩
  obtain ⟨WA, hWA⟩ : ∃ WA, WA = W2.alloc (.cells #[.int .i64 0, .int .i64 0, .bool false, .int .i64 0, .int .i64 0, .int .i64 0, .int .i64 0, .slice none 0 0, .string ⟨#[]⟩] 60) := ⟨_, rfl⟩
  have g1 : W1.heap.size = w.heap.size + 1 := by rw [hW1]; simp
  have g2 : W2.heap.size = W1.heap.size + 1 := by rw [hW2]; simp
  have g3 : WA.heap.size = W2.heap.size + 1 := by rw [hWA]; simp
  have k1 : Below w.heap.size w W1 := by rw [hW1]; exact bAlloc (Below.refl _ _) _
  have k2 : Below W1.heap.size W1 W2 := by rw [hW2]; exact bAlloc (Below.refl _ _) _
  have k3 : Below W2.heap.size W2 WA := by rw [hWA]; exact bAlloc (Below.refl _ _) _
  have HD0 := Lib.hid (show DecP w WA W1.heap.size W2.heap.size #[.int .i64 0, .int .i64 0, .bool false, .int .i64 0, .int .i64 0, .int .i64 0, .int .i64 0, .slice none 0 0, .string ⟨#[]⟩] none [] from ⟨⟨by omega, by omega, by omega, by omega⟩, (k3.block _ (by omega)).trans ((k2.block _ (by omega)).trans (by rw [hW1]; exact heap_alloc_new _ _)), by rw [hWA]; exact heap_alloc_new _ _, Sl.nil, bThen k1 (bThen k2 k3)⟩)
  have HE0 := Lib.hid (show Ey WA W1.heap.size bs bs 0 from Ey.later (by rw [hW2]; exact Ey.fresh W1 A bs c (Sl.later hs k1) hl hc.1 hc.2) k3)
  have HW := Lib.hid (show ((w.alloc (.cells #[.int .i64 0, .int .i64 0, .bool false, .int .i64 0, .int .i64 0, .int .i64 0, .int .i64 0, .slice none 0 0, .string ⟨#[]⟩] 60)).alloc (.cells #[.slice A bs.length c, .int .i64 0, .int .i64 0] 146)).alloc (.cells #[.int .i64 0, .int .i64 0, .bool false, .int .i64 0, .int .i64 0, .int .i64 0, .int .i64 0, .slice none 0 0, .string ⟨#[]⟩] 60) = WA by rw [hWA, hW2, hW1])
  obtain ⟨B, hB⟩ : ∃ B, B = W1.heap.size := ⟨_, rfl⟩
  obtain ⟨P, hP⟩ : ∃ P, P = W2.heap.size := ⟨_, rfl⟩
  have HE1 := Lib.hid (show w.heap.size + 1 + 1 = P by omega)
  have HE2 := Lib.hid (show w.heap.size + 1 = B by omega)
  rw [← hB] at HE0
  rw [← hB, ← hP] at HD0
  have hord : w.heap.size < B ∧ B < P := by omega
  have HO := Lib.hid hord
  have n1 : ¬ B = P := by omega
  have n2 : ¬ P = B := by omega
  have n3 : ¬ w.heap.size = P := by omega
  have n4 : ¬ P = w.heap.size := by omega
  have n5 : ¬ w.heap.size = B := by omega
  have n6 : ¬ B = w.heap.size := by omega
  clear hB hP k1 k2 k3 g1 g2 g3 hWA hW2 hW1 hord
  go_enter Tryd.func40, Tryd.ntmps40
  have HT0 := Lib.hid (enum_all WA B bs bs 0 HE0.out)
  rw [H0.out] at HT0
  go_wp2_with fail
  rw [HW.out, HE1.out, HE2.out]
  try go_wp2_with fail
  refine HT0.out.mono ?_
  rintro r w1 ⟨rfl, hr, ho⟩
  try dsimp only at hr
  have HDc := Lib.hid (HD0.out.only ho)
  obtain ⟨x0, x1, x2, x3, x4, x5, x6, x7, x8, y0, y1, y2, y3, y4, y5, y6, y7, y8, hxz⟩ := nine_cell HDc.out.p
  obtain ⟨V1, hV1⟩ : ∃ V1, V1 = w1.setCell ⟨P, 0, none⟩ (.int .i64 ep) := ⟨_, rfl⟩
  have HD1 := Lib.hid (show DecP w V1 B P #[.int .i64 ep, .int .i64 0, .bool false, .int .i64 0, .int .i64 0, .int .i64 0, .int .i64 0, .slice none 0 0, .string ⟨#[]⟩] none [] by rw [hV1]; exact HDc.out.set 0 _)
  have HE11 := Lib.hid (show Ey V1 B bs l1 f1 by rw [hV1]; exact hr.keep (fun k hk => Below.heap_setCell _ _ _ _ (show k ≠ P by have := HO.out; omega)))
  have HW1 := Lib.hid hV1
  clear hr ho hV1 HT0
  have HT1 := Lib.hid (enum_all V1 B bs l1 f1 HE11.out)
  rw [H1.out] at HT1
  go_wp2_with fail
  rw [← HW1.out]
  try go_wp2_with fail
  refine HT1.out.mono ?_
  rintro r w2 ⟨rfl, hr, ho⟩
  try dsimp only at hr
  have HDc := Lib.hid (HD1.out.only ho)
  clear x0 x1 x2 x3 x4 x5 x6 x7 x8 y0 y1 y2 y3 y4 y5 y6 y7 y8 hxz
  obtain ⟨x0, x1, x2, x3, x4, x5, x6, x7, x8, y0, y1, y2, y3, y4, y5, y6, y7, y8, hxz⟩ := nine_cell HDc.out.p
  obtain ⟨V2, hV2⟩ : ∃ V2, V2 = w2.setCell ⟨P, 3, none⟩ (.int .i64 ak) := ⟨_, rfl⟩
  have HD2 := Lib.hid (show DecP w V2 B P #[.int .i64 ep, .int .i64 0, .bool false, .int .i64 ak, .int .i64 0, .int .i64 0, .int .i64 0, .slice none 0 0, .string ⟨#[]⟩] none [] by rw [hV2]; exact HDc.out.set 3 _)
  have HE12 := Lib.hid (show Ey V2 B bs l2 f2 by rw [hV2]; exact hr.keep (fun k hk => Below.heap_setCell _ _ _ _ (show k ≠ P by have := HO.out; omega)))
  have HW2 := Lib.hid hV2
  clear hr ho hV2 HT1
  have HT2 := Lib.hid (enum_all V2 B bs l2 f2 HE12.out)
  rw [H2.out] at HT2
  go_wp2_with fail
  rw [← HW2.out]
  try go_wp2_with fail
  refine HT2.out.mono ?_
  rintro r w3 ⟨rfl, hr, ho⟩
  try dsimp only at hr
  have HDc := Lib.hid (HD2.out.only ho)
  clear x0 x1 x2 x3 x4 x5 x6 x7 x8 y0 y1 y2 y3 y4 y5 y6 y7 y8 hxz
  obtain ⟨x0, x1, x2, x3, x4, x5, x6, x7, x8, y0, y1, y2, y3, y4, y5, y6, y7, y8, hxz⟩ := nine_cell HDc.out.p
  obtain ⟨V3, hV3⟩ : ∃ V3, V3 = (w3.setCell ⟨P, 1, none⟩ (.int .i64 nu)).setCell ⟨P, 2, none⟩ (.bool false) := ⟨_, rfl⟩
  have HD3 := Lib.hid (show DecP w V3 B P #[.int .i64 ep, .int .i64 nu, .bool false, .int .i64 ak, .int .i64 0, .int .i64 0, .int .i64 0, .slice none 0 0, .string ⟨#[]⟩] none [] by rw [hV3]; exact (HDc.out.set 1 _).set 2 _)
  have HE13 := Lib.hid (show Ey V3 B bs l3 f3 by rw [hV3]; exact hr.keep (fun k hk => (Below.heap_setCell _ _ _ _ (show k ≠ P by have := HO.out; omega)).trans (Below.heap_setCell _ _ _ _ (show k ≠ P by have := HO.out; omega))))
  have HW3 := Lib.hid hV3
  clear hr ho hV3 HT2
  have HT3 := Lib.hid (enum_all V3 B bs l3 f3 HE13.out)
  rw [H3.out] at HT3
  go_wp2_with fail
  rw [← HW3.out]
  try go_wp2_with fail
  refine HT3.out.mono ?_
  rintro r w4 ⟨rfl, hr, ho⟩
  try dsimp only at hr
  have HDc := Lib.hid (HD3.out.only ho)
  clear x0 x1 x2 x3 x4 x5 x6 x7 x8 y0 y1 y2 y3 y4 y5 y6 y7 y8 hxz
  obtain ⟨x0, x1, x2, x3, x4, x5, x6, x7, x8, y0, y1, y2, y3, y4, y5, y6, y7, y8, hxz⟩ := nine_cell HDc.out.p
  obtain ⟨V4, hV4⟩ : ∃ V4, V4 = w4.setCell ⟨P, 4, none⟩ (.int .i64 3) := ⟨_, rfl⟩
  have HD4 := Lib.hid (show DecP w V4 B P #[.int .i64 ep, .int .i64 nu, .bool false, .int .i64 ak, .int .i64 3, .int .i64 0, .int .i64 0, .slice none 0 0, .string ⟨#[]⟩] none [] by rw [hV4]; exact HDc.out.set 4 _)
  have HE14 := Lib.hid (show Ey V4 B bs l4 f4 by rw [hV4]; exact hr.keep (fun k hk => Below.heap_setCell _ _ _ _ (show k ≠ P by have := HO.out; omega)))
  have HW4 := Lib.hid hV4
  clear hr ho hV4 HT3
  have HT4 := Lib.hid (enum_all V4 B bs l4 f4 HE14.out)
  rw [H4.out] at HT4
  go_wp2_with fail
  rw [← HW4.out]
  try go_wp2_with fail
  refine HT4.out.mono ?_
  rintro r w5 ⟨rfl, hr, ho⟩
  try dsimp only at hr
  have HDc := Lib.hid (HD4.out.only ho)
  clear x0 x1 x2 x3 x4 x5 x6 x7 x8 y0 y1 y2 y3 y4 y5 y6 y7 y8 hxz
  obtain ⟨x0, x1, x2, x3, x4, x5, x6, x7, x8, y0, y1, y2, y3, y4, y5, y6, y7, y8, hxz⟩ := nine_cell HDc.out.p
  obtain ⟨V5, hV5⟩ : ∃ V5, V5 = w5.setCell ⟨P, 6, none⟩ (.int .i64 e) := ⟨_, rfl⟩
  have HD5 := Lib.hid (show DecP w V5 B P #[.int .i64 ep, .int .i64 nu, .bool false, .int .i64 ak, .int .i64 3, .int .i64 0, .int .i64 e, .slice none 0 0, .string ⟨#[]⟩] none [] by rw [hV5]; exact HDc.out.set 6 _)
  have HE15 := Lib.hid (show Ey V5 B bs l5 f5 by rw [hV5]; exact hr.keep (fun k hk => Below.heap_setCell _ _ _ _ (show k ≠ P by have := HO.out; omega)))
  have HW5 := Lib.hid hV5
  clear hr ho hV5 HT4
  have HT5 := Lib.hid (estr_c V5 B bs l5 f5 HE15.out)
  rw [H5.out] at HT5
  go_wp2_with fail
  rw [← HW5.out]
  try go_wp2_with fail
  refine HT5.out.mono ?_
  rintro r w6 ⟨rfl, hr, ho⟩
  try dsimp only at hr
  have HDc := Lib.hid (HD5.out.only ho)
  clear x0 x1 x2 x3 x4 x5 x6 x7 x8 y0 y1 y2 y3 y4 y5 y6 y7 y8 hxz
  obtain ⟨x0, x1, x2, x3, x4, x5, x6, x7, x8, y0, y1, y2, y3, y4, y5, y6, y7, y8, hxz⟩ := nine_cell HDc.out.p
  obtain ⟨V6, hV6⟩ : ∃ V6, V6 = w6.setCell ⟨P, 8, none⟩ (.string s) := ⟨_, rfl⟩
  have HD6 := Lib.hid (show DecP w V6 B P #[.int .i64 ep, .int .i64 nu, .bool false, .int .i64 ak, .int .i64 3, .int .i64 0, .int .i64 e, .slice none 0 0, .string s] none [] by rw [hV6]; exact HDc.out.set 8 _)
  have HE16 := Lib.hid (show Ey V6 B bs l6 f6 by rw [hV6]; exact hr.keep (fun k hk => Below.heap_setCell _ _ _ _ (show k ≠ P by have := HO.out; omega)))
  have HW6 := Lib.hid hV6
  obtain ⟨A7, c7, a7, t0, t1, t2, t3, t4, t5⟩ := hr
  have HC7 := Lib.hid (show V6.heap[B]? = some (.cells #[.slice A7 bs.length c7, .int .i64 (a7 : Nat), .int .i64 f6] 146 (0, 0)) by rw [hV6]; exact (Below.heap_setCell _ _ _ _ (show B ≠ P by have := HO.out; omega)).trans t0)
  clear ho hV6 HT5
  obtain ⟨r0, r1, r2, r3, r4, r5, r6, r7, r8, s0, s1, s2, s3, s4, s5, s6, s7, s8, hrz⟩ := nine_cell HDc.out.r
  obtain ⟨u0, u1, u2, u3, u4, u5, u6⟩ := three_cell t0
  have hlen := congrArg List.length t2
  rw [List.length_drop] at hlen
  clear hlen
  go_wp2_with fail
  go_region
  go_wp2
  rw [← HW6.out]
  obtain ⟨W9, hW9⟩ : ∃ W9, W9 = (((((((((V6.setCell ⟨w.heap.size, 0, none⟩ (.int .i64 0)).setCell ⟨w.heap.size, 1, none⟩ (.int .i64 0)).setCell ⟨w.heap.size, 2, none⟩ (.bool false)).setCell ⟨w.heap.size, 3, none⟩ (.int .i64 0)).setCell ⟨w.heap.size, 4, none⟩ (.int .i64 0)).setCell ⟨w.heap.size, 5, none⟩ (.int .i64 0)).setCell ⟨w.heap.size, 6, none⟩ (.int .i64 0)).setCell ⟨w.heap.size, 7, none⟩ (.slice none 0 0)).setCell ⟨w.heap.size, 8, none⟩ (.string ⟨#[]⟩)) := ⟨_, rfl⟩
  rw [← hW9]
  have hR9 : W9.heap[w.heap.size]? = some (.cells #[.int .i64 0, .int .i64 0, .bool false, .int .i64 0, .int .i64 0, .int .i64 0, .int .i64 0, .slice none 0 0, .string ⟨#[]⟩] 60 (0, 0)) := by rw [hW9]; exact nine_sets (x0 := .int .i64 0) (x1 := .int .i64 0) (x2 := .bool false) (x3 := .int .i64 0) (x4 := .int .i64 0) (x5 := .int .i64 0) (x6 := .int .i64 0) (x7 := .slice none 0 0) (x8 := .string ⟨#[]⟩) HD6.out.r
  have hO : Only w.heap.size V6 W9 := by rw [hW9]; exact (((((((((Only.set _ _ _)).trans (Only.set _ _ _)).trans (Only.set _ _ _)).trans (Only.set _ _ _)).trans (Only.set _ _ _)).trans (Only.set _ _ _)).trans (Only.set _ _ _)).trans (Only.set _ _ _)).trans (Only.set _ _ _)
  have hBz : Below w.heap.size w W9 := HD6.out.b.trans (hO.below (Nat.le_refl _) HD6.out.b.size)
  have hOp := HD6.out.op.moved (S' := fun b => w.heap.size ≤ b ∧ b < W9.heap.size) fun b hb => ⟨⟨by have := HO.out; omega, Nat.lt_of_lt_of_le hb.2 hO.size⟩, hO.block b hb.2 (by have := HO.out; omega)⟩
  clear hW9 r0 r1 r2 r3 r4 r5 r6 r7 r8 s0 s1 s2 s3 s4 s5 s6 s7 s8 hrz
  refine post_hide (fun G => G.heap[w.heap.size]? = some (.cells #[.int .i64 0, .int .i64 0, .bool false, .int .i64 0, .int .i64 0, .int .i64 0, .int .i64 0, .slice none 0 0, .string ⟨#[]⟩] 60 (0, 0)) ∧ True ∧ Below w.heap.size w G) ⟨hR9, trivial, Below.drew hBz⟩ ?_
  rintro G ⟨hRG, hOG, hBG⟩
  obtain ⟨r0, r1, r2, r3, r4, r5, r6, r7, r8, _, _, _, _, _, _, _, _, _, _⟩ := nine_cell hRG
  refine bodyPost_ret (v := .tuple #[packetV 0 0 false 0 0 0 0 none 0 0 ⟨#[]⟩, .int .i64 f6]) (by simp [results, Tryd.results40, go_sem, r0, r1, r2, r3, r4, r5, r6, r7, r8]) rfl ?_
  exact ⟨none, 0, rfl, Sl.nil, hBG⟩
set_option maxHeartbeats 2000000 in
theorem PacketOf_tb (w : World) (A : Option Addr) (c : Nat) (bs : List UInt8) (hs : Sl (· < w.heap.size) w 1 A bs.length (bs.map byteV)) (hc : bs.length ≤ c ∧ c ≤ 9223372036854775807) (hl : bs.length ≤ 50000) (_HT : Hid (Tabs w)) (l1 l2 l3 l4 l5 : List UInt8) (f1 f2 f3 f4 f5 ep ak : Int) (nu : Int) (_nb : (nu == 0) = false) (e : Int) (s : ByteArray) (ch : UInt8) (tl : List UInt8)
    (H0 : Hid (readNum bs 0 = (ep, l1, f1))) (H1 : Hid (readNum l1 f1 = (ak, l2, f2))) (H2 : Hid (readNum l2 f2 = (nu, l3, f3))) (H3 : Hid (readNum l3 f3 = (3, l4, f4))) (H4 : Hid (readNum l4 f4 = (e, l5, f5))) (H5 : Hid (readText l5 f5 = (s, (ch :: tl), 0)))  :
    Calls Tryd.prog 40 #[.slice A bs.length c] w (RetPk w (noPacket, 4)) := by
  have e0 : decide ((50000 : Int) < (bs.length : Int)) = false := by simp; omega
  obtain ⟨W1, hW1⟩ : ∃ W1, W1 = w.alloc (.cells #[.int .i64 0, .int .i64 0, .bool false, .int .i64 0, .int .i64 0, .int .i64 0, .int .i64 0, .slice none 0 0, .string ⟨#[]⟩] 60) := ⟨_, rfl⟩
  obtain ⟨W2, hW2⟩ : ∃ W2, W2 = W1.alloc (.cells #[.slice A bs.length c, .int .i64 0, .int .i64 0] 146) := ⟨_, rfl⟩
  obtain ⟨WA, hWA⟩ : ∃ WA, WA = W2.alloc (.cells #[.int .i64 0, .int .i64 0, .bool false, .int .i64 0, .int .i64 0, .int .i64 0, .int .i64 0, .slice none 0 0, .string ⟨#[]⟩] 60) := ⟨_, rfl⟩
  have g1 : W1.heap.size = w.heap.size + 1 := by rw [hW1]; simp
  have g2 : W2.heap.size = W1.heap.size + 1 := by rw [hW2]; simp
  have g3 : WA.heap.size = W2.heap.size + 1 := by rw [hWA]; simp
  have k1 : Below w.heap.size w W1 := by rw [hW1]; exact bAlloc (Below.refl _ _) _
  have k2 : Below W1.heap.size W1 W2 := by rw [hW2]; exact bAlloc (Below.refl _ _) _
  have k3 : Below W2.heap.size W2 WA := by rw [hWA]; exact bAlloc (Below.refl _ _) _
  have HD0 := Lib.hid (show DecP w WA W1.heap.size W2.heap.size #[.int .i64 0, .int .i64 0, .bool false, .int .i64 0, .int .i64 0, .int .i64 0, .int .i64 0, .slice none 0 0, .string ⟨#[]⟩] none [] from ⟨⟨by omega, by omega, by omega, by omega⟩, (k3.block _ (by omega)).trans ((k2.block _ (by omega)).trans (by rw [hW1]; exact heap_alloc_new _ _)), by rw [hWA]; exact heap_alloc_new _ _, Sl.nil, bThen k1 (bThen k2 k3)⟩)
  have HE0 := Lib.hid (show Ey WA W1.heap.size bs bs 0 from Ey.later (by rw [hW2]; exact Ey.fresh W1 A bs c (Sl.later hs k1) hl hc.1 hc.2) k3)
  have HW := Lib.hid (show ((w.alloc (.cells #[.int .i64 0, .int .i64 0, .bool false, .int .i64 0, .int .i64 0, .int .i64 0, .int .i64 0, .slice none 0 0, .string ⟨#[]⟩] 60)).alloc (.cells #[.slice A bs.length c, .int .i64 0, .int .i64 0] 146)).alloc (.cells #[.int .i64 0, .int .i64 0, .bool false, .int .i64 0, .int .i64 0, .int .i64 0, .int .i64 0, .slice none 0 0, .string ⟨#[]⟩] 60) = WA by rw [hWA, hW2, hW1])
  obtain ⟨B, hB⟩ : ∃ B, B = W1.heap.size := ⟨_, rfl⟩
  obtain ⟨P, hP⟩ : ∃ P, P = W2.heap.size := ⟨_, rfl⟩
  have HE1 := Lib.hid (show w.heap.size + 1 + 1 = P by omega)
  have HE2 := Lib.hid (show w.heap.size + 1 = B by omega)
  rw [← hB] at HE0
  rw [← hB, ← hP] at HD0
  have hord : w.heap.size < B ∧ B < P := by omega
  have HO := Lib.hid hord
  have n1 : ¬ B = P := by omega
  have n2 : ¬ P = B := by omega
  have n3 : ¬ w.heap.size = P := by omega
  have n4 : ¬ P = w.heap.size := by omega
  have n5 : ¬ w.heap.size = B := by omega
  have n6 : ¬ B = w.heap.size := by omega
  clear hB hP k1 k2 k3 g1 g2 g3 hWA hW2 hW1 hord
  go_enter Tryd.func40, Tryd.ntmps40
  have HT0 := Lib.hid (enum_all WA B bs bs 0 HE0.out)
  rw [H0.out] at HT0
  go_wp2_with fail
  rw [HW.out, HE1.out, HE2.out]
  try go_wp2_with fail
  refine HT0.out.mono ?_
  rintro r w1 ⟨rfl, hr, ho⟩
  try dsimp only at hr
  have HDc := Lib.hid (HD0.out.only ho)
  obtain ⟨x0, x1, x2, x3, x4, x5, x6, x7, x8, y0, y1, y2, y3, y4, y5, y6, y7, y8, hxz⟩ := nine_cell HDc.out.p
  obtain ⟨V1, hV1⟩ : ∃ V1, V1 = w1.setCell ⟨P, 0, none⟩ (.int .i64 ep) := ⟨_, rfl⟩
  have HD1 := Lib.hid (show DecP w V1 B P #[.int .i64 ep, .int .i64 0, .bool false, .int .i64 0, .int .i64 0, .int .i64 0, .int .i64 0, .slice none 0 0, .string ⟨#[]⟩] none [] by rw [hV1]; exact HDc.out.set 0 _)
  have HE11 := Lib.hid (show Ey V1 B bs l1 f1 by rw [hV1]; exact hr.keep (fun k hk => Below.heap_setCell _ _ _ _ (show k ≠ P by have := HO.out; omega)))
  have HW1 := Lib.hid hV1
  clear hr ho hV1 HT0
  have HT1 := Lib.hid (enum_all V1 B bs l1 f1 HE11.out)
  rw [H1.out] at HT1
  go_wp2_with fail
  rw [← HW1.out]
  try go_wp2_with fail
  refine HT1.out.mono ?_
  rintro r w2 ⟨rfl, hr, ho⟩
  try dsimp only at hr
  have HDc := Lib.hid (HD1.out.only ho)
  clear x0 x1 x2 x3 x4 x5 x6 x7 x8 y0 y1 y2 y3 y4 y5 y6 y7 y8 hxz
  obtain ⟨x0, x1, x2, x3, x4, x5, x6, x7, x8, y0, y1, y2, y3, y4, y5, y6, y7, y8, hxz⟩ := nine_cell HDc.out.p
  obtain ⟨V2, hV2⟩ : ∃ V2, V2 = w2.setCell ⟨P, 3, none⟩ (.int .i64 ak) := ⟨_, rfl⟩
  have HD2 := Lib.hid (show DecP w V2 B P #[.int .i64 ep, .int .i64 0, .bool false, .int .i64 ak, .int .i64 0, .int .i64 0, .int .i64 0, .slice none 0 0, .string ⟨#[]⟩] none [] by rw [hV2]; exact HDc.out.set 3 _)
  have HE12 := Lib.hid (show Ey V2 B bs l2 f2 by rw [hV2]; exact hr.keep (fun k hk => Below.heap_setCell _ _ _ _ (show k ≠ P by have := HO.out; omega)))
  have HW2 := Lib.hid hV2
  clear hr ho hV2 HT1
  have HT2 := Lib.hid (enum_all V2 B bs l2 f2 HE12.out)
  rw [H2.out] at HT2
  go_wp2_with fail
  rw [← HW2.out]
  try go_wp2_with fail
  refine HT2.out.mono ?_
  rintro r w3 ⟨rfl, hr, ho⟩
  try dsimp only at hr
  have HDc := Lib.hid (HD2.out.only ho)
  clear x0 x1 x2 x3 x4 x5 x6 x7 x8 y0 y1 y2 y3 y4 y5 y6 y7 y8 hxz
  obtain ⟨x0, x1, x2, x3, x4, x5, x6, x7, x8, y0, y1, y2, y3, y4, y5, y6, y7, y8, hxz⟩ := nine_cell HDc.out.p
  obtain ⟨V3, hV3⟩ : ∃ V3, V3 = (w3.setCell ⟨P, 1, none⟩ (.int .i64 nu)).setCell ⟨P, 2, none⟩ (.bool false) := ⟨_, rfl⟩
  have HD3 := Lib.hid (show DecP w V3 B P #[.int .i64 ep, .int .i64 nu, .bool false, .int .i64 ak, .int .i64 0, .int .i64 0, .int .i64 0, .slice none 0 0, .string ⟨#[]⟩] none [] by rw [hV3]; exact (HDc.out.set 1 _).set 2 _)
  have HE13 := Lib.hid (show Ey V3 B bs l3 f3 by rw [hV3]; exact hr.keep (fun k hk => (Below.heap_setCell _ _ _ _ (show k ≠ P by have := HO.out; omega)).trans (Below.heap_setCell _ _ _ _ (show k ≠ P by have := HO.out; omega))))
  have HW3 := Lib.hid hV3
  clear hr ho hV3 HT2
  have HT3 := Lib.hid (enum_all V3 B bs l3 f3 HE13.out)
  rw [H3.out] at HT3
  go_wp2_with fail
  rw [← HW3.out]
  try go_wp2_with fail
  refine HT3.out.mono ?_
  rintro r w4 ⟨rfl, hr, ho⟩
  try dsimp only at hr
  have HDc := Lib.hid (HD3.out.only ho)
  clear x0 x1 x2 x3 x4 x5 x6 x7 x8 y0 y1 y2 y3 y4 y5 y6 y7 y8 hxz
  obtain ⟨x0, x1, x2, x3, x4, x5, x6, x7, x8, y0, y1, y2, y3, y4, y5, y6, y7, y8, hxz⟩ := nine_cell HDc.out.p
  obtain ⟨V4, hV4⟩ : ∃ V4, V4 = w4.setCell ⟨P, 4, none⟩ (.int .i64 3) := ⟨_, rfl⟩
  have HD4 := Lib.hid (show DecP w V4 B P #[.int .i64 ep, .int .i64 nu, .bool false, .int .i64 ak, .int .i64 3, .int .i64 0, .int .i64 0, .slice none 0 0, .string ⟨#[]⟩] none [] by rw [hV4]; exact HDc.out.set 4 _)
  have HE14 := Lib.hid (show Ey V4 B bs l4 f4 by rw [hV4]; exact hr.keep (fun k hk => Below.heap_setCell _ _ _ _ (show k ≠ P by have := HO.out; omega)))
  have HW4 := Lib.hid hV4
  clear hr ho hV4 HT3
  have HT4 := Lib.hid (enum_all V4 B bs l4 f4 HE14.out)
  rw [H4.out] at HT4
  go_wp2_with fail
  rw [← HW4.out]
  try go_wp2_with fail
  refine HT4.out.mono ?_
  rintro r w5 ⟨rfl, hr, ho⟩
  try dsimp only at hr
  have HDc := Lib.hid (HD4.out.only ho)
  clear x0 x1 x2 x3 x4 x5 x6 x7 x8 y0 y1 y2 y3 y4 y5 y6 y7 y8 hxz
  obtain ⟨x0, x1, x2, x3, x4, x5, x6, x7, x8, y0, y1, y2, y3, y4, y5, y6, y7, y8, hxz⟩ := nine_cell HDc.out.p
  obtain ⟨V5, hV5⟩ : ∃ V5, V5 = w5.setCell ⟨P, 6, none⟩ (.int .i64 e) := ⟨_, rfl⟩
  have HD5 := Lib.hid (show DecP w V5 B P #[.int .i64 ep, .int .i64 nu, .bool false, .int .i64 ak, .int .i64 3, .int .i64 0, .int .i64 e, .slice none 0 0, .string ⟨#[]⟩] none [] by rw [hV5]; exact HDc.out.set 6 _)
  have HE15 := Lib.hid (show Ey V5 B bs l5 f5 by rw [hV5]; exact hr.keep (fun k hk => Below.heap_setCell _ _ _ _ (show k ≠ P by have := HO.out; omega)))
  have HW5 := Lib.hid hV5
  clear hr ho hV5 HT4
  have HT5 := Lib.hid (estr_c V5 B bs l5 f5 HE15.out)
  rw [H5.out] at HT5
  go_wp2_with fail
  rw [← HW5.out]
  try go_wp2_with fail
  refine HT5.out.mono ?_
  rintro r w6 ⟨rfl, hr, ho⟩
  try dsimp only at hr
  have HDc := Lib.hid (HD5.out.only ho)
  clear x0 x1 x2 x3 x4 x5 x6 x7 x8 y0 y1 y2 y3 y4 y5 y6 y7 y8 hxz
  obtain ⟨x0, x1, x2, x3, x4, x5, x6, x7, x8, y0, y1, y2, y3, y4, y5, y6, y7, y8, hxz⟩ := nine_cell HDc.out.p
  obtain ⟨V6, hV6⟩ : ∃ V6, V6 = w6.setCell ⟨P, 8, none⟩ (.string s) := ⟨_, rfl⟩
  have HD6 := Lib.hid (show DecP w V6 B P #[.int .i64 ep, .int .i64 nu, .bool false, .int .i64 ak, .int .i64 3, .int .i64 0, .int .i64 e, .slice none 0 0, .string s] none [] by rw [hV6]; exact HDc.out.set 8 _)
  have HE16 := Lib.hid (show Ey V6 B bs (ch :: tl) 0 by rw [hV6]; exact hr.keep (fun k hk => Below.heap_setCell _ _ _ _ (show k ≠ P by have := HO.out; omega)))
  have HW6 := Lib.hid hV6
  obtain ⟨A7, c7, a7, t0, t1, t2, t3, t4, t5⟩ := hr
  have HC7 := Lib.hid (show V6.heap[B]? = some (.cells #[.slice A7 bs.length c7, .int .i64 (a7 : Nat), .int .i64 0] 146 (0, 0)) by rw [hV6]; exact (Below.heap_setCell _ _ _ _ (show B ≠ P by have := HO.out; omega)).trans t0)
  clear ho hV6 HT5
  obtain ⟨r0, r1, r2, r3, r4, r5, r6, r7, r8, s0, s1, s2, s3, s4, s5, s6, s7, s8, hrz⟩ := nine_cell HDc.out.r
  obtain ⟨u0, u1, u2, u3, u4, u5, u6⟩ := three_cell t0
  have hlen := congrArg List.length t2
  rw [List.length_drop, List.length_cons] at hlen
  have d1 : decide (a7 < bs.length) = true := decide_eq_true (by omega)
  clear hlen
  have HDY := Lib.hid (HD6.out.only (Only.set V6 2 (.int .i64 4)))
  go_wp2_with fail
  go_region
  go_wp2
  rw [← HW6.out]
  obtain ⟨WY, hWY⟩ : ∃ WY, WY = V6.setCell ⟨B, 2, none⟩ (.int .i64 4) := ⟨_, rfl⟩
  rw [← hWY]
  rw [← hWY] at HDY
  clear hWY
  obtain ⟨W9, hW9⟩ : ∃ W9, W9 = (((((((((WY.setCell ⟨w.heap.size, 0, none⟩ (.int .i64 0)).setCell ⟨w.heap.size, 1, none⟩ (.int .i64 0)).setCell ⟨w.heap.size, 2, none⟩ (.bool false)).setCell ⟨w.heap.size, 3, none⟩ (.int .i64 0)).setCell ⟨w.heap.size, 4, none⟩ (.int .i64 0)).setCell ⟨w.heap.size, 5, none⟩ (.int .i64 0)).setCell ⟨w.heap.size, 6, none⟩ (.int .i64 0)).setCell ⟨w.heap.size, 7, none⟩ (.slice none 0 0)).setCell ⟨w.heap.size, 8, none⟩ (.string ⟨#[]⟩)) := ⟨_, rfl⟩
  rw [← hW9]
  have hR9 : W9.heap[w.heap.size]? = some (.cells #[.int .i64 0, .int .i64 0, .bool false, .int .i64 0, .int .i64 0, .int .i64 0, .int .i64 0, .slice none 0 0, .string ⟨#[]⟩] 60 (0, 0)) := by rw [hW9]; exact nine_sets (x0 := .int .i64 0) (x1 := .int .i64 0) (x2 := .bool false) (x3 := .int .i64 0) (x4 := .int .i64 0) (x5 := .int .i64 0) (x6 := .int .i64 0) (x7 := .slice none 0 0) (x8 := .string ⟨#[]⟩) HDY.out.r
  have hO : Only w.heap.size WY W9 := by rw [hW9]; exact (((((((((Only.set _ _ _)).trans (Only.set _ _ _)).trans (Only.set _ _ _)).trans (Only.set _ _ _)).trans (Only.set _ _ _)).trans (Only.set _ _ _)).trans (Only.set _ _ _)).trans (Only.set _ _ _)).trans (Only.set _ _ _)
  have hBz : Below w.heap.size w W9 := HDY.out.b.trans (hO.below (Nat.le_refl _) HDY.out.b.size)
  have hOp := HDY.out.op.moved (S' := fun b => w.heap.size ≤ b ∧ b < W9.heap.size) fun b hb => ⟨⟨by have := HO.out; omega, Nat.lt_of_lt_of_le hb.2 hO.size⟩, hO.block b hb.2 (by have := HO.out; omega)⟩
  clear hW9 r0 r1 r2 r3 r4 r5 r6 r7 r8 s0 s1 s2 s3 s4 s5 s6 s7 s8 hrz
  refine post_hide (fun G => G.heap[w.heap.size]? = some (.cells #[.int .i64 0, .int .i64 0, .bool false, .int .i64 0, .int .i64 0, .int .i64 0, .int .i64 0, .slice none 0 0, .string ⟨#[]⟩] 60 (0, 0)) ∧ True ∧ Below w.heap.size w G) ⟨hR9, trivial, Below.drew hBz⟩ ?_
  rintro G ⟨hRG, hOG, hBG⟩
  obtain ⟨r0, r1, r2, r3, r4, r5, r6, r7, r8, _, _, _, _, _, _, _, _, _, _⟩ := nine_cell hRG
  refine bodyPost_ret (v := .tuple #[packetV 0 0 false 0 0 0 0 none 0 0 ⟨#[]⟩, .int .i64 4]) (by simp [results, Tryd.results40, go_sem, r0, r1, r2, r3, r4, r5, r6, r7, r8]) rfl ?_
  exact ⟨none, 0, rfl, Sl.nil, hBG⟩
set_option maxHeartbeats 2000000 in
theorem PacketOf_tf (w : World) (A : Option Addr) (c : Nat) (bs : List UInt8) (hs : Sl (· < w.heap.size) w 1 A bs.length (bs.map byteV)) (hc : bs.length ≤ c ∧ c ≤ 9223372036854775807) (hl : bs.length ≤ 50000) (HT : Hid (Tabs w)) (l1 l2 l3 l4 l5 : List UInt8) (f1 f2 f3 f4 f5 ep ak : Int) (nu : Int) (_nb : (nu == 0) = false) (e : Int) (s : ByteArray)
    (H0 : Hid (readNum bs 0 = (ep, l1, f1))) (H1 : Hid (readNum l1 f1 = (ak, l2, f2))) (H2 : Hid (readNum l2 f2 = (nu, l3, f3))) (H3 : Hid (readNum l3 f3 = (3, l4, f4))) (H4 : Hid (readNum l4 f4 = (e, l5, f5))) (H5 : Hid (readText l5 f5 = (s, [], 0))) (HP : Hid (s.size ≤ 1048576)) (er : Int) (HF : Hid (packetFault ⟨ep, nu, false, ak, ⟨3, 0, e, [], s⟩⟩ = er)) (_er0 : (er == 0) = false) :
    Calls Tryd.prog 40 #[.slice A bs.length c] w (RetPk w (noPacket, er)) := by
  have e0 : decide ((50000 : Int) < (bs.length : Int)) = false := by simp; omega
  obtain ⟨W1, hW1⟩ : ∃ W1, W1 = w.alloc (.cells #[.int .i64 0, .int .i64 0, .bool false, .int .i64 0, .int .i64 0, .int .i64 0, .int .i64 0, .slice none 0 0, .string ⟨#[]⟩] 60) := ⟨_, rfl⟩
  obtain ⟨W2, hW2⟩ : ∃ W2, W2 = W1.alloc (.cells #[.slice A bs.length c, .int .i64 0, .int .i64 0] 146) := ⟨_, rfl⟩
  obtain ⟨WA, hWA⟩ : ∃ WA, WA = W2.alloc (.cells #[.int .i64 0, .int .i64 0, .bool false, .int .i64 0, .int .i64 0, .int .i64 0, .int .i64 0, .slice none 0 0, .string ⟨#[]⟩] 60) := ⟨_, rfl⟩
  have g1 : W1.heap.size = w.heap.size + 1 := by rw [hW1]; simp
  have g2 : W2.heap.size = W1.heap.size + 1 := by rw [hW2]; simp
  have g3 : WA.heap.size = W2.heap.size + 1 := by rw [hWA]; simp
  have k1 : Below w.heap.size w W1 := by rw [hW1]; exact bAlloc (Below.refl _ _) _
  have k2 : Below W1.heap.size W1 W2 := by rw [hW2]; exact bAlloc (Below.refl _ _) _
  have k3 : Below W2.heap.size W2 WA := by rw [hWA]; exact bAlloc (Below.refl _ _) _
  have HD0 := Lib.hid (show DecP w WA W1.heap.size W2.heap.size #[.int .i64 0, .int .i64 0, .bool false, .int .i64 0, .int .i64 0, .int .i64 0, .int .i64 0, .slice none 0 0, .string ⟨#[]⟩] none [] from ⟨⟨by omega, by omega, by omega, by omega⟩, (k3.block _ (by omega)).trans ((k2.block _ (by omega)).trans (by rw [hW1]; exact heap_alloc_new _ _)), by rw [hWA]; exact heap_alloc_new _ _, Sl.nil, bThen k1 (bThen k2 k3)⟩)
  have HE0 := Lib.hid (show Ey WA W1.heap.size bs bs 0 from Ey.later (by rw [hW2]; exact Ey.fresh W1 A bs c (Sl.later hs k1) hl hc.1 hc.2) k3)
  have HW := Lib.hid (show ((w.alloc (.cells #[.int .i64 0, .int .i64 0, .bool false, .int .i64 0, .int .i64 0, .int .i64 0, .int .i64 0, .slice none 0 0, .string ⟨#[]⟩] 60)).alloc (.cells #[.slice A bs.length c, .int .i64 0, .int .i64 0] 146)).alloc (.cells #[.int .i64 0, .int .i64 0, .bool false, .int .i64 0, .int .i64 0, .int .i64 0, .int .i64 0, .slice none 0 0, .string ⟨#[]⟩] 60) = WA by rw [hWA, hW2, hW1])
  obtain ⟨B, hB⟩ : ∃ B, B = W1.heap.size := ⟨_, rfl⟩
  obtain ⟨P, hP⟩ : ∃ P, P = W2.heap.size := ⟨_, rfl⟩
  have HE1 := Lib.hid (show w.heap.size + 1 + 1 = P by omega)
  have HE2 := Lib.hid (show w.heap.size + 1 = B by omega)
  rw [← hB] at HE0
  rw [← hB, ← hP] at HD0
  have hord : w.heap.size < B ∧ B < P := by omega
  have HO := Lib.hid hord
  have n1 : ¬ B = P := by omega
  have n2 : ¬ P = B := by omega
  have n3 : ¬ w.heap.size = P := by omega
  have n4 : ¬ P = w.heap.size := by omega
  have n5 : ¬ w.heap.size = B := by omega
  have n6 : ¬ B = w.heap.size := by omega
  clear hB hP k1 k2 k3 g1 g2 g3 hWA hW2 hW1 hord
  go_enter Tryd.func40, Tryd.ntmps40
  have HT0 := Lib.hid (enum_all WA B bs bs 0 HE0.out)
  rw [H0.out] at HT0
  go_wp2_with fail
  rw [HW.out, HE1.out, HE2.out]
  try go_wp2_with fail
  refine HT0.out.mono ?_
  rintro r w1 ⟨rfl, hr, ho⟩
  try dsimp only at hr
  have HDc := Lib.hid (HD0.out.only ho)
  obtain ⟨x0, x1, x2, x3, x4, x5, x6, x7, x8, y0, y1, y2, y3, y4, y5, y6, y7, y8, hxz⟩ := nine_cell HDc.out.p
  obtain ⟨V1, hV1⟩ : ∃ V1, V1 = w1.setCell ⟨P, 0, none⟩ (.int .i64 ep) := ⟨_, rfl⟩
  have HD1 := Lib.hid (show DecP w V1 B P #[.int .i64 ep, .int .i64 0, .bool false, .int .i64 0, .int .i64 0, .int .i64 0, .int .i64 0, .slice none 0 0, .string ⟨#[]⟩] none [] by rw [hV1]; exact HDc.out.set 0 _)
  have HE11 := Lib.hid (show Ey V1 B bs l1 f1 by rw [hV1]; exact hr.keep (fun k hk => Below.heap_setCell _ _ _ _ (show k ≠ P by have := HO.out; omega)))
  have HW1 := Lib.hid hV1
  clear hr ho hV1 HT0
  have HT1 := Lib.hid (enum_all V1 B bs l1 f1 HE11.out)
  rw [H1.out] at HT1
  go_wp2_with fail
  rw [← HW1.out]
  try go_wp2_with fail
  refine HT1.out.mono ?_
  rintro r w2 ⟨rfl, hr, ho⟩
  try dsimp only at hr
  have HDc := Lib.hid (HD1.out.only ho)
  clear x0 x1 x2 x3 x4 x5 x6 x7 x8 y0 y1 y2 y3 y4 y5 y6 y7 y8 hxz
  obtain ⟨x0, x1, x2, x3, x4, x5, x6, x7, x8, y0, y1, y2, y3, y4, y5, y6, y7, y8, hxz⟩ := nine_cell HDc.out.p
  obtain ⟨V2, hV2⟩ : ∃ V2, V2 = w2.setCell ⟨P, 3, none⟩ (.int .i64 ak) := ⟨_, rfl⟩
  have HD2 := Lib.hid (show DecP w V2 B P #[.int .i64 ep, .int .i64 0, .bool false, .int .i64 ak, .int .i64 0, .int .i64 0, .int .i64 0, .slice none 0 0, .string ⟨#[]⟩] none [] by rw [hV2]; exact HDc.out.set 3 _)
  have HE12 := Lib.hid (show Ey V2 B bs l2 f2 by rw [hV2]; exact hr.keep (fun k hk => Below.heap_setCell _ _ _ _ (show k ≠ P by have := HO.out; omega)))
  have HW2 := Lib.hid hV2
  clear hr ho hV2 HT1
  have HT2 := Lib.hid (enum_all V2 B bs l2 f2 HE12.out)
  rw [H2.out] at HT2
  go_wp2_with fail
  rw [← HW2.out]
  try go_wp2_with fail
  refine HT2.out.mono ?_
  rintro r w3 ⟨rfl, hr, ho⟩
  try dsimp only at hr
  have HDc := Lib.hid (HD2.out.only ho)
  clear x0 x1 x2 x3 x4 x5 x6 x7 x8 y0 y1 y2 y3 y4 y5 y6 y7 y8 hxz
  obtain ⟨x0, x1, x2, x3, x4, x5, x6, x7, x8, y0, y1, y2, y3, y4, y5, y6, y7, y8, hxz⟩ := nine_cell HDc.out.p
  obtain ⟨V3, hV3⟩ : ∃ V3, V3 = (w3.setCell ⟨P, 1, none⟩ (.int .i64 nu)).setCell ⟨P, 2, none⟩ (.bool false) := ⟨_, rfl⟩
  have HD3 := Lib.hid (show DecP w V3 B P #[.int .i64 ep, .int .i64 nu, .bool false, .int .i64 ak, .int .i64 0, .int .i64 0, .int .i64 0, .slice none 0 0, .string ⟨#[]⟩] none [] by rw [hV3]; exact (HDc.out.set 1 _).set 2 _)
  have HE13 := Lib.hid (show Ey V3 B bs l3 f3 by rw [hV3]; exact hr.keep (fun k hk => (Below.heap_setCell _ _ _ _ (show k ≠ P by have := HO.out; omega)).trans (Below.heap_setCell _ _ _ _ (show k ≠ P by have := HO.out; omega))))
  have HW3 := Lib.hid hV3
  clear hr ho hV3 HT2
  have HT3 := Lib.hid (enum_all V3 B bs l3 f3 HE13.out)
  rw [H3.out] at HT3
  go_wp2_with fail
  rw [← HW3.out]
  try go_wp2_with fail
  refine HT3.out.mono ?_
  rintro r w4 ⟨rfl, hr, ho⟩
  try dsimp only at hr
  have HDc := Lib.hid (HD3.out.only ho)
  clear x0 x1 x2 x3 x4 x5 x6 x7 x8 y0 y1 y2 y3 y4 y5 y6 y7 y8 hxz
  obtain ⟨x0, x1, x2, x3, x4, x5, x6, x7, x8, y0, y1, y2, y3, y4, y5, y6, y7, y8, hxz⟩ := nine_cell HDc.out.p
  obtain ⟨V4, hV4⟩ : ∃ V4, V4 = w4.setCell ⟨P, 4, none⟩ (.int .i64 3) := ⟨_, rfl⟩
  have HD4 := Lib.hid (show DecP w V4 B P #[.int .i64 ep, .int .i64 nu, .bool false, .int .i64 ak, .int .i64 3, .int .i64 0, .int .i64 0, .slice none 0 0, .string ⟨#[]⟩] none [] by rw [hV4]; exact HDc.out.set 4 _)
  have HE14 := Lib.hid (show Ey V4 B bs l4 f4 by rw [hV4]; exact hr.keep (fun k hk => Below.heap_setCell _ _ _ _ (show k ≠ P by have := HO.out; omega)))
  have HW4 := Lib.hid hV4
  clear hr ho hV4 HT3
  have HT4 := Lib.hid (enum_all V4 B bs l4 f4 HE14.out)
  rw [H4.out] at HT4
  go_wp2_with fail
  rw [← HW4.out]
  try go_wp2_with fail
  refine HT4.out.mono ?_
  rintro r w5 ⟨rfl, hr, ho⟩
  try dsimp only at hr
  have HDc := Lib.hid (HD4.out.only ho)
  clear x0 x1 x2 x3 x4 x5 x6 x7 x8 y0 y1 y2 y3 y4 y5 y6 y7 y8 hxz
  obtain ⟨x0, x1, x2, x3, x4, x5, x6, x7, x8, y0, y1, y2, y3, y4, y5, y6, y7, y8, hxz⟩ := nine_cell HDc.out.p
  obtain ⟨V5, hV5⟩ : ∃ V5, V5 = w5.setCell ⟨P, 6, none⟩ (.int .i64 e) := ⟨_, rfl⟩
  have HD5 := Lib.hid (show DecP w V5 B P #[.int .i64 ep, .int .i64 nu, .bool false, .int .i64 ak, .int .i64 3, .int .i64 0, .int .i64 e, .slice none 0 0, .string ⟨#[]⟩] none [] by rw [hV5]; exact HDc.out.set 6 _)
  have HE15 := Lib.hid (show Ey V5 B bs l5 f5 by rw [hV5]; exact hr.keep (fun k hk => Below.heap_setCell _ _ _ _ (show k ≠ P by have := HO.out; omega)))
  have HW5 := Lib.hid hV5
  clear hr ho hV5 HT4
  have HT5 := Lib.hid (estr_c V5 B bs l5 f5 HE15.out)
  rw [H5.out] at HT5
  go_wp2_with fail
  rw [← HW5.out]
  try go_wp2_with fail
  refine HT5.out.mono ?_
  rintro r w6 ⟨rfl, hr, ho⟩
  try dsimp only at hr
  have HDc := Lib.hid (HD5.out.only ho)
  clear x0 x1 x2 x3 x4 x5 x6 x7 x8 y0 y1 y2 y3 y4 y5 y6 y7 y8 hxz
  obtain ⟨x0, x1, x2, x3, x4, x5, x6, x7, x8, y0, y1, y2, y3, y4, y5, y6, y7, y8, hxz⟩ := nine_cell HDc.out.p
  obtain ⟨V6, hV6⟩ : ∃ V6, V6 = w6.setCell ⟨P, 8, none⟩ (.string s) := ⟨_, rfl⟩
  have HD6 := Lib.hid (show DecP w V6 B P #[.int .i64 ep, .int .i64 nu, .bool false, .int .i64 ak, .int .i64 3, .int .i64 0, .int .i64 e, .slice none 0 0, .string s] none [] by rw [hV6]; exact HDc.out.set 8 _)
  have HE16 := Lib.hid (show Ey V6 B bs [] 0 by rw [hV6]; exact hr.keep (fun k hk => Below.heap_setCell _ _ _ _ (show k ≠ P by have := HO.out; omega)))
  have HW6 := Lib.hid hV6
  obtain ⟨A7, c7, a7, t0, t1, t2, t3, t4, t5⟩ := hr
  have HC7 := Lib.hid (show V6.heap[B]? = some (.cells #[.slice A7 bs.length c7, .int .i64 (a7 : Nat), .int .i64 0] 146 (0, 0)) by rw [hV6]; exact (Below.heap_setCell _ _ _ _ (show B ≠ P by have := HO.out; omega)).trans t0)
  clear ho hV6 HT5
  obtain ⟨r0, r1, r2, r3, r4, r5, r6, r7, r8, s0, s1, s2, s3, s4, s5, s6, s7, s8, hrz⟩ := nine_cell HDc.out.r
  obtain ⟨u0, u1, u2, u3, u4, u5, u6⟩ := three_cell t0
  have hlen := congrArg List.length t2
  rw [List.length_drop, List.length_nil] at hlen
  obtain rfl : a7 = bs.length := by omega
  clear hlen
  have HC6 := Lib.hid (PacketFault_c V6 ep nu false ak 3 0 e none 0 [] s (HT.out.later HD6.out.b) (HD6.out.op.moved fun b hb => ⟨hb.2, rfl⟩) (by simp) (by simp) HP.out)
  rw [HF.out] at HC6
  go_wp2_with fail
  rw [← HW6.out]
  refine HC6.out.mono ?_
  rintro r w9 ⟨rfl, hb9⟩
  have HD9 := Lib.hid (HD6.out.later hb9)
  have HR9 := Lib.hid ((hb9.block B (by have := HD6.out.ord; omega)).trans HC7.out)
  clear r0 r1 r2 r3 r4 r5 r6 r7 r8 s0 s1 s2 s3 s4 s5 s6 s7 s8 hrz x0 x1 x2 x3 x4 x5 x6 x7 x8 y0 y1 y2 y3 y4 y5 y6 y7 y8 hxz u0 u1 u2 u3 u4 u5 u6
  obtain ⟨WZ, hWZ⟩ : ∃ WZ, WZ = w9.setCell ⟨B, 2, none⟩ (.int .i64 er) := ⟨_, rfl⟩
  have HDZ := Lib.hid (show DecP w WZ B P #[.int .i64 ep, .int .i64 nu, .bool false, .int .i64 ak, .int .i64 3, .int .i64 0, .int .i64 e, .slice none 0 0, .string s] none [] by rw [hWZ]; exact HD9.out.only (Only.set _ _ _))
  have HWZ := Lib.hid hWZ
  obtain ⟨r0, r1, r2, r3, r4, r5, r6, r7, r8, s0, s1, s2, s3, s4, s5, s6, s7, s8, hrz⟩ := nine_cell HD9.out.r
  obtain ⟨x0, x1, x2, x3, x4, x5, x6, x7, x8, y0, y1, y2, y3, y4, y5, y6, y7, y8, hxz⟩ := nine_cell HD9.out.p
  obtain ⟨u0, u1, u2, u3, u4, u5, u6⟩ := three_cell HR9.out
  clear hb9 HC6 hWZ
  go_wp2_with fail
  go_region
  go_wp2
  rw [← HWZ.out]
  obtain ⟨W9, hW9⟩ : ∃ W9, W9 = (((((((((WZ.setCell ⟨w.heap.size, 0, none⟩ (.int .i64 0)).setCell ⟨w.heap.size, 1, none⟩ (.int .i64 0)).setCell ⟨w.heap.size, 2, none⟩ (.bool false)).setCell ⟨w.heap.size, 3, none⟩ (.int .i64 0)).setCell ⟨w.heap.size, 4, none⟩ (.int .i64 0)).setCell ⟨w.heap.size, 5, none⟩ (.int .i64 0)).setCell ⟨w.heap.size, 6, none⟩ (.int .i64 0)).setCell ⟨w.heap.size, 7, none⟩ (.slice none 0 0)).setCell ⟨w.heap.size, 8, none⟩ (.string ⟨#[]⟩)) := ⟨_, rfl⟩
  rw [← hW9]
  have hR9 : W9.heap[w.heap.size]? = some (.cells #[.int .i64 0, .int .i64 0, .bool false, .int .i64 0, .int .i64 0, .int .i64 0, .int .i64 0, .slice none 0 0, .string ⟨#[]⟩] 60 (0, 0)) := by rw [hW9]; exact nine_sets (x0 := .int .i64 0) (x1 := .int .i64 0) (x2 := .bool false) (x3 := .int .i64 0) (x4 := .int .i64 0) (x5 := .int .i64 0) (x6 := .int .i64 0) (x7 := .slice none 0 0) (x8 := .string ⟨#[]⟩) HDZ.out.r
  have hO : Only w.heap.size WZ W9 := by rw [hW9]; exact (((((((((Only.set _ _ _)).trans (Only.set _ _ _)).trans (Only.set _ _ _)).trans (Only.set _ _ _)).trans (Only.set _ _ _)).trans (Only.set _ _ _)).trans (Only.set _ _ _)).trans (Only.set _ _ _)).trans (Only.set _ _ _)
  have hBz : Below w.heap.size w W9 := HDZ.out.b.trans (hO.below (Nat.le_refl _) HDZ.out.b.size)
  have hOp := HDZ.out.op.moved (S' := fun b => w.heap.size ≤ b ∧ b < W9.heap.size) fun b hb => ⟨⟨by have := HO.out; omega, Nat.lt_of_lt_of_le hb.2 hO.size⟩, hO.block b hb.2 (by have := HO.out; omega)⟩
  clear hW9 r0 r1 r2 r3 r4 r5 r6 r7 r8 s0 s1 s2 s3 s4 s5 s6 s7 s8 hrz
  refine post_hide (fun G => G.heap[w.heap.size]? = some (.cells #[.int .i64 0, .int .i64 0, .bool false, .int .i64 0, .int .i64 0, .int .i64 0, .int .i64 0, .slice none 0 0, .string ⟨#[]⟩] 60 (0, 0)) ∧ True ∧ Below w.heap.size w G) ⟨hR9, trivial, Below.drew hBz⟩ ?_
  rintro G ⟨hRG, hOG, hBG⟩
  obtain ⟨r0, r1, r2, r3, r4, r5, r6, r7, r8, _, _, _, _, _, _, _, _, _, _⟩ := nine_cell hRG
  refine bodyPost_ret (v := .tuple #[packetV 0 0 false 0 0 0 0 none 0 0 ⟨#[]⟩, .int .i64 er]) (by simp [results, Tryd.results40, go_sem, r0, r1, r2, r3, r4, r5, r6, r7, r8]) rfl ?_
  exact ⟨none, 0, rfl, Sl.nil, hBG⟩
set_option maxHeartbeats 2000000 in
theorem PacketOf_to (w : World) (A : Option Addr) (c : Nat) (bs : List UInt8) (hs : Sl (· < w.heap.size) w 1 A bs.length (bs.map byteV)) (hc : bs.length ≤ c ∧ c ≤ 9223372036854775807) (hl : bs.length ≤ 50000) (HT : Hid (Tabs w)) (l1 l2 l3 l4 l5 : List UInt8) (f1 f2 f3 f4 f5 ep ak : Int) (nu : Int) (_nb : (nu == 0) = false) (e : Int) (s : ByteArray)
    (H0 : Hid (readNum bs 0 = (ep, l1, f1))) (H1 : Hid (readNum l1 f1 = (ak, l2, f2))) (H2 : Hid (readNum l2 f2 = (nu, l3, f3))) (H3 : Hid (readNum l3 f3 = (3, l4, f4))) (H4 : Hid (readNum l4 f4 = (e, l5, f5))) (H5 : Hid (readText l5 f5 = (s, [], 0))) (HP : Hid (s.size ≤ 1048576)) (HF : Hid (packetFault ⟨ep, nu, false, ak, ⟨3, 0, e, [], s⟩⟩ = 0)) :
    Calls Tryd.prog 40 #[.slice A bs.length c] w (RetPk w (⟨ep, nu, false, ak, ⟨3, 0, e, [], s⟩⟩, 0)) := by
  have e0 : decide ((50000 : Int) < (bs.length : Int)) = false := by simp; omega
  obtain ⟨W1, hW1⟩ : ∃ W1, W1 = w.alloc (.cells #[.int .i64 0, .int .i64 0, .bool false, .int .i64 0, .int .i64 0, .int .i64 0, .int .i64 0, .slice none 0 0, .string ⟨#[]⟩] 60) := ⟨_, rfl⟩
  obtain ⟨W2, hW2⟩ : ∃ W2, W2 = W1.alloc (.cells #[.slice A bs.length c, .int .i64 0, .int .i64 0] 146) := ⟨_, rfl⟩
  obtain ⟨WA, hWA⟩ : ∃ WA, WA = W2.alloc (.cells #[.int .i64 0, .int .i64 0, .bool false, .int .i64 0, .int .i64 0, .int .i64 0, .int .i64 0, .slice none 0 0, .string ⟨#[]⟩] 60) := ⟨_, rfl⟩
  have g1 : W1.heap.size = w.heap.size + 1 := by rw [hW1]; simp
  have g2 : W2.heap.size = W1.heap.size + 1 := by rw [hW2]; simp
  have g3 : WA.heap.size = W2.heap.size + 1 := by rw [hWA]; simp
  have k1 : Below w.heap.size w W1 := by rw [hW1]; exact bAlloc (Below.refl _ _) _
  have k2 : Below W1.heap.size W1 W2 := by rw [hW2]; exact bAlloc (Below.refl _ _) _
  have k3 : Below W2.heap.size W2 WA := by rw [hWA]; exact bAlloc (Below.refl _ _) _
  have HD0 := Lib.hid (show DecP w WA W1.heap.size W2.heap.size #[.int .i64 0, .int .i64 0, .bool false, .int .i64 0, .int .i64 0, .int .i64 0, .int .i64 0, .slice none 0 0, .string ⟨#[]⟩] none [] from ⟨⟨by omega, by omega, by omega, by omega⟩, (k3.block _ (by omega)).trans ((k2.block _ (by omega)).trans (by rw [hW1]; exact heap_alloc_new _ _)), by rw [hWA]; exact heap_alloc_new _ _, Sl.nil, bThen k1 (bThen k2 k3)⟩)
  have HE0 := Lib.hid (show Ey WA W1.heap.size bs bs 0 from Ey.later (by rw [hW2]; exact Ey.fresh W1 A bs c (Sl.later hs k1) hl hc.1 hc.2) k3)
  have HW := Lib.hid (show ((w.alloc (.cells #[.int .i64 0, .int .i64 0, .bool false, .int .i64 0, .int .i64 0, .int .i64 0, .int .i64 0, .slice none 0 0, .string ⟨#[]⟩] 60)).alloc (.cells #[.slice A bs.length c, .int .i64 0, .int .i64 0] 146)).alloc (.cells #[.int .i64 0, .int .i64 0, .bool false, .int .i64 0, .int .i64 0, .int .i64 0, .int .i64 0, .slice none 0 0, .string ⟨#[]⟩] 60) = WA by rw [hWA, hW2, hW1])
  obtain ⟨B, hB⟩ : ∃ B, B = W1.heap.size := ⟨_, rfl⟩
  obtain ⟨P, hP⟩ : ∃ P, P = W2.heap.size := ⟨_, rfl⟩
  have HE1 := Lib.hid (show w.heap.size + 1 + 1 = P by omega)
  have HE2 := Lib.hid (show w.heap.size + 1 = B by omega)
  rw [← hB] at HE0
  rw [← hB, ← hP] at HD0
  have hord : w.heap.size < B ∧ B < P := by omega
  have HO := Lib.hid hord
  have n1 : ¬ B = P := by omega
  have n2 : ¬ P = B := by omega
  have n3 : ¬ w.heap.size = P := by omega
  have n4 : ¬ P = w.heap.size := by omega
  have n5 : ¬ w.heap.size = B := by omega
  have n6 : ¬ B = w.heap.size := by omega
  clear hB hP k1 k2 k3 g1 g2 g3 hWA hW2 hW1 hord
  go_enter Tryd.func40, Tryd.ntmps40
  have HT0 := Lib.hid (enum_all WA B bs bs 0 HE0.out)
  rw [H0.out] at HT0
  go_wp2_with fail
  rw [HW.out, HE1.out, HE2.out]
  try go_wp2_with fail
  refine HT0.out.mono ?_
  rintro r w1 ⟨rfl, hr, ho⟩
  try dsimp only at hr
  have HDc := Lib.hid (HD0.out.only ho)
  obtain ⟨x0, x1, x2, x3, x4, x5, x6, x7, x8, y0, y1, y2, y3, y4, y5, y6, y7, y8, hxz⟩ := nine_cell HDc.out.p
  obtain ⟨V1, hV1⟩ : ∃ V1, V1 = w1.setCell ⟨P, 0, none⟩ (.int .i64 ep) := ⟨_, rfl⟩
  have HD1 := Lib.hid (show DecP w V1 B P #[.int .i64 ep, .int .i64 0, .bool false, .int .i64 0, .int .i64 0, .int .i64 0, .int .i64 0, .slice none 0 0, .string ⟨#[]⟩] none [] by rw [hV1]; exact HDc.out.set 0 _)
  have HE11 := Lib.hid (show Ey V1 B bs l1 f1 by rw [hV1]; exact hr.keep (fun k hk => Below.heap_setCell _ _ _ _ (show k ≠ P by have := HO.out; omega)))
  have HW1 := Lib.hid hV1
  clear hr ho hV1 HT0
  have HT1 := Lib.hid (enum_all V1 B bs l1 f1 HE11.out)
  rw [H1.out] at HT1
  go_wp2_with fail
  rw [← HW1.out]
  try go_wp2_with fail
  refine HT1.out.mono ?_
  rintro r w2 ⟨rfl, hr, ho⟩
  try dsimp only at hr
  have HDc := Lib.hid (HD1.out.only ho)
  clear x0 x1 x2 x3 x4 x5 x6 x7 x8 y0 y1 y2 y3 y4 y5 y6 y7 y8 hxz
  obtain ⟨x0, x1, x2, x3, x4, x5, x6, x7, x8, y0, y1, y2, y3, y4, y5, y6, y7, y8, hxz⟩ := nine_cell HDc.out.p
  obtain ⟨V2, hV2⟩ : ∃ V2, V2 = w2.setCell ⟨P, 3, none⟩ (.int .i64 ak) := ⟨_, rfl⟩
  have HD2 := Lib.hid (show DecP w V2 B P #[.int .i64 ep, .int .i64 0, .bool false, .int .i64 ak, .int .i64 0, .int .i64 0, .int .i64 0, .slice none 0 0, .string ⟨#[]⟩] none [] by rw [hV2]; exact HDc.out.set 3 _)
  have HE12 := Lib.hid (show Ey V2 B bs l2 f2 by rw [hV2]; exact hr.keep (fun k hk => Below.heap_setCell _ _ _ _ (show k ≠ P by have := HO.out; omega)))
  have HW2 := Lib.hid hV2
  clear hr ho hV2 HT1
  have HT2 := Lib.hid (enum_all V2 B bs l2 f2 HE12.out)
  rw [H2.out] at HT2
  go_wp2_with fail
  rw [← HW2.out]
  try go_wp2_with fail
  refine HT2.out.mono ?_
  rintro r w3 ⟨rfl, hr, ho⟩
  try dsimp only at hr
  have HDc := Lib.hid (HD2.out.only ho)
  clear x0 x1 x2 x3 x4 x5 x6 x7 x8 y0 y1 y2 y3 y4 y5 y6 y7 y8 hxz
  obtain ⟨x0, x1, x2, x3, x4, x5, x6, x7, x8, y0, y1, y2, y3, y4, y5, y6, y7, y8, hxz⟩ := nine_cell HDc.out.p
  obtain ⟨V3, hV3⟩ : ∃ V3, V3 = (w3.setCell ⟨P, 1, none⟩ (.int .i64 nu)).setCell ⟨P, 2, none⟩ (.bool false) := ⟨_, rfl⟩
  have HD3 := Lib.hid (show DecP w V3 B P #[.int .i64 ep, .int .i64 nu, .bool false, .int .i64 ak, .int .i64 0, .int .i64 0, .int .i64 0, .slice none 0 0, .string ⟨#[]⟩] none [] by rw [hV3]; exact (HDc.out.set 1 _).set 2 _)
  have HE13 := Lib.hid (show Ey V3 B bs l3 f3 by rw [hV3]; exact hr.keep (fun k hk => (Below.heap_setCell _ _ _ _ (show k ≠ P by have := HO.out; omega)).trans (Below.heap_setCell _ _ _ _ (show k ≠ P by have := HO.out; omega))))
  have HW3 := Lib.hid hV3
  clear hr ho hV3 HT2
  have HT3 := Lib.hid (enum_all V3 B bs l3 f3 HE13.out)
  rw [H3.out] at HT3
  go_wp2_with fail
  rw [← HW3.out]
  try go_wp2_with fail
  refine HT3.out.mono ?_
  rintro r w4 ⟨rfl, hr, ho⟩
  try dsimp only at hr
  have HDc := Lib.hid (HD3.out.only ho)
  clear x0 x1 x2 x3 x4 x5 x6 x7 x8 y0 y1 y2 y3 y4 y5 y6 y7 y8 hxz
  obtain ⟨x0, x1, x2, x3, x4, x5, x6, x7, x8, y0, y1, y2, y3, y4, y5, y6, y7, y8, hxz⟩ := nine_cell HDc.out.p
  obtain ⟨V4, hV4⟩ : ∃ V4, V4 = w4.setCell ⟨P, 4, none⟩ (.int .i64 3) := ⟨_, rfl⟩
  have HD4 := Lib.hid (show DecP w V4 B P #[.int .i64 ep, .int .i64 nu, .bool false, .int .i64 ak, .int .i64 3, .int .i64 0, .int .i64 0, .slice none 0 0, .string ⟨#[]⟩] none [] by rw [hV4]; exact HDc.out.set 4 _)
  have HE14 := Lib.hid (show Ey V4 B bs l4 f4 by rw [hV4]; exact hr.keep (fun k hk => Below.heap_setCell _ _ _ _ (show k ≠ P by have := HO.out; omega)))
  have HW4 := Lib.hid hV4
  clear hr ho hV4 HT3
  have HT4 := Lib.hid (enum_all V4 B bs l4 f4 HE14.out)
  rw [H4.out] at HT4
  go_wp2_with fail
  rw [← HW4.out]
  try go_wp2_with fail
  refine HT4.out.mono ?_
  rintro r w5 ⟨rfl, hr, ho⟩
  try dsimp only at hr
  have HDc := Lib.hid (HD4.out.only ho)
  clear x0 x1 x2 x3 x4 x5 x6 x7 x8 y0 y1 y2 y3 y4 y5 y6 y7 y8 hxz
  obtain ⟨x0, x1, x2, x3, x4, x5, x6, x7, x8, y0, y1, y2, y3, y4, y5, y6, y7, y8, hxz⟩ := nine_cell HDc.out.p
  obtain ⟨V5, hV5⟩ : ∃ V5, V5 = w5.setCell ⟨P, 6, none⟩ (.int .i64 e) := ⟨_, rfl⟩
  have HD5 := Lib.hid (show DecP w V5 B P #[.int .i64 ep, .int .i64 nu, .bool false, .int .i64 ak, .int .i64 3, .int .i64 0, .int .i64 e, .slice none 0 0, .string ⟨#[]⟩] none [] by rw [hV5]; exact HDc.out.set 6 _)
  have HE15 := Lib.hid (show Ey V5 B bs l5 f5 by rw [hV5]; exact hr.keep (fun k hk => Below.heap_setCell _ _ _ _ (show k ≠ P by have := HO.out; omega)))
  have HW5 := Lib.hid hV5
  clear hr ho hV5 HT4
  have HT5 := Lib.hid (estr_c V5 B bs l5 f5 HE15.out)
  rw [H5.out] at HT5
  go_wp2_with fail
  rw [← HW5.out]
  try go_wp2_with fail
  refine HT5.out.mono ?_
  rintro r w6 ⟨rfl, hr, ho⟩
  try dsimp only at hr
  have HDc := Lib.hid (HD5.out.only ho)
  clear x0 x1 x2 x3 x4 x5 x6 x7 x8 y0 y1 y2 y3 y4 y5 y6 y7 y8 hxz
  obtain ⟨x0, x1, x2, x3, x4, x5, x6, x7, x8, y0, y1, y2, y3, y4, y5, y6, y7, y8, hxz⟩ := nine_cell HDc.out.p
  obtain ⟨V6, hV6⟩ : ∃ V6, V6 = w6.setCell ⟨P, 8, none⟩ (.string s) := ⟨_, rfl⟩
  have HD6 := Lib.hid (show DecP w V6 B P #[.int .i64 ep, .int .i64 nu, .bool false, .int .i64 ak, .int .i64 3, .int .i64 0, .int .i64 e, .slice none 0 0, .string s] none [] by rw [hV6]; exact HDc.out.set 8 _)
  have HE16 := Lib.hid (show Ey V6 B bs [] 0 by rw [hV6]; exact hr.keep (fun k hk => Below.heap_setCell _ _ _ _ (show k ≠ P by have := HO.out; omega)))
  have HW6 := Lib.hid hV6
  obtain ⟨A7, c7, a7, t0, t1, t2, t3, t4, t5⟩ := hr
  have HC7 := Lib.hid (show V6.heap[B]? = some (.cells #[.slice A7 bs.length c7, .int .i64 (a7 : Nat), .int .i64 0] 146 (0, 0)) by rw [hV6]; exact (Below.heap_setCell _ _ _ _ (show B ≠ P by have := HO.out; omega)).trans t0)
  clear ho hV6 HT5
  obtain ⟨r0, r1, r2, r3, r4, r5, r6, r7, r8, s0, s1, s2, s3, s4, s5, s6, s7, s8, hrz⟩ := nine_cell HDc.out.r
  obtain ⟨u0, u1, u2, u3, u4, u5, u6⟩ := three_cell t0
  have hlen := congrArg List.length t2
  rw [List.length_drop, List.length_nil] at hlen
  obtain rfl : a7 = bs.length := by omega
  clear hlen
  have HC6 := Lib.hid (PacketFault_c V6 ep nu false ak 3 0 e none 0 [] s (HT.out.later HD6.out.b) (HD6.out.op.moved fun b hb => ⟨hb.2, rfl⟩) (by simp) (by simp) HP.out)
  rw [HF.out] at HC6
  go_wp2_with fail
  rw [← HW6.out]
  refine HC6.out.mono ?_
  rintro r w9 ⟨rfl, hb9⟩
  have HD9 := Lib.hid (HD6.out.later hb9)
  have HR9 := Lib.hid ((hb9.block B (by have := HD6.out.ord; omega)).trans HC7.out)
  clear r0 r1 r2 r3 r4 r5 r6 r7 r8 s0 s1 s2 s3 s4 s5 s6 s7 s8 hrz x0 x1 x2 x3 x4 x5 x6 x7 x8 y0 y1 y2 y3 y4 y5 y6 y7 y8 hxz u0 u1 u2 u3 u4 u5 u6
  obtain ⟨WZ, hWZ⟩ : ∃ WZ, WZ = w9.setCell ⟨B, 2, none⟩ (.int .i64 0) := ⟨_, rfl⟩
  have HDZ := Lib.hid (show DecP w WZ B P #[.int .i64 ep, .int .i64 nu, .bool false, .int .i64 ak, .int .i64 3, .int .i64 0, .int .i64 e, .slice none 0 0, .string s] none [] by rw [hWZ]; exact HD9.out.only (Only.set _ _ _))
  have HWZ := Lib.hid hWZ
  obtain ⟨r0, r1, r2, r3, r4, r5, r6, r7, r8, s0, s1, s2, s3, s4, s5, s6, s7, s8, hrz⟩ := nine_cell HD9.out.r
  obtain ⟨x0, x1, x2, x3, x4, x5, x6, x7, x8, y0, y1, y2, y3, y4, y5, y6, y7, y8, hxz⟩ := nine_cell HD9.out.p
  obtain ⟨u0, u1, u2, u3, u4, u5, u6⟩ := three_cell HR9.out
  clear hb9 HC6 hWZ
  go_wp2_with fail
  rw [← HWZ.out]
  obtain ⟨W9, hW9⟩ : ∃ W9, W9 = (((((((((WZ.setCell ⟨w.heap.size, 0, none⟩ (.int .i64 ep)).setCell ⟨w.heap.size, 1, none⟩ (.int .i64 nu)).setCell ⟨w.heap.size, 2, none⟩ (.bool false)).setCell ⟨w.heap.size, 3, none⟩ (.int .i64 ak)).setCell ⟨w.heap.size, 4, none⟩ (.int .i64 3)).setCell ⟨w.heap.size, 5, none⟩ (.int .i64 0)).setCell ⟨w.heap.size, 6, none⟩ (.int .i64 e)).setCell ⟨w.heap.size, 7, none⟩ (.slice none 0 0)).setCell ⟨w.heap.size, 8, none⟩ (.string s)) := ⟨_, rfl⟩
  rw [← hW9]
  have hR9 : W9.heap[w.heap.size]? = some (.cells #[.int .i64 ep, .int .i64 nu, .bool false, .int .i64 ak, .int .i64 3, .int .i64 0, .int .i64 e, .slice none 0 0, .string s] 60 (0, 0)) := by rw [hW9]; exact nine_sets (x0 := .int .i64 ep) (x1 := .int .i64 nu) (x2 := .bool false) (x3 := .int .i64 ak) (x4 := .int .i64 3) (x5 := .int .i64 0) (x6 := .int .i64 e) (x7 := .slice none 0 0) (x8 := .string s) HDZ.out.r
  have hO : Only w.heap.size WZ W9 := by rw [hW9]; exact (((((((((Only.set _ _ _)).trans (Only.set _ _ _)).trans (Only.set _ _ _)).trans (Only.set _ _ _)).trans (Only.set _ _ _)).trans (Only.set _ _ _)).trans (Only.set _ _ _)).trans (Only.set _ _ _)).trans (Only.set _ _ _)
  have hBz : Below w.heap.size w W9 := HDZ.out.b.trans (hO.below (Nat.le_refl _) HDZ.out.b.size)
  have hOp := HDZ.out.op.moved (S' := fun b => w.heap.size ≤ b ∧ b < W9.heap.size) fun b hb => ⟨⟨by have := HO.out; omega, Nat.lt_of_lt_of_le hb.2 hO.size⟩, hO.block b hb.2 (by have := HO.out; omega)⟩
  clear hW9 r0 r1 r2 r3 r4 r5 r6 r7 r8 s0 s1 s2 s3 s4 s5 s6 s7 s8 hrz
  refine post_hide (fun G => G.heap[w.heap.size]? = some (.cells #[.int .i64 ep, .int .i64 nu, .bool false, .int .i64 ak, .int .i64 3, .int .i64 0, .int .i64 e, .slice none 0 0, .string s] 60 (0, 0)) ∧ OpIn (fun b => w.heap.size ≤ b ∧ b < G.heap.size) G none [] ∧ Below w.heap.size w G) ⟨hR9, hOp, hBz⟩ ?_
  rintro G ⟨hRG, hOG, hBG⟩
  obtain ⟨r0, r1, r2, r3, r4, r5, r6, r7, r8, _, _, _, _, _, _, _, _, _, _⟩ := nine_cell hRG
  refine bodyPost_ret (v := .tuple #[packetV ep nu false ak 3 0 e none 0 0 s, .int .i64 0]) (by simp [results, Tryd.results40, go_sem, r0, r1, r2, r3, r4, r5, r6, r7, r8]) rfl ?_
  exact ⟨none, 0, rfl, hOG, hBG⟩
end Go.Proofs.YtieofljkgmkaiaaDoor
