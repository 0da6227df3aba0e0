/-
  Contract of the reader's method frame.
-/
import Derived.Test.YtieofljkgmkaiaaDoorRows
import Derived.Test.YtieofljkgmkaiaaDoorReadM
import Derived.Test.YtieofljkgmkaiaaDoorFrameOwn
import Derived.Test.YtieofljkgmkaiaaDoorHide
import Derived.Test.YtieofljkgmkaiaaDoorStop
namespace Go.Proofs.YtieofljkgmkaiaaDoor
open Go.ChangeShapes Go.WideShapes Go.ChangeAt Go.RowKit
set_option maxRecDepth 100000
theorem Only.fresh {B R : Nat} {w W W9 : World} (h : Only B w W) (hO : Only R W W9) (hR : w.heap.size ≤ R) : Only B w W9 :=
  ⟨hO.os.trans h.os, hO.tape.trans h.tape, hO.output.trans h.output, Nat.le_trans h.size hO.size, fun k hk hb => (hO.block k (Nat.lt_of_lt_of_le hk h.size) (by omega)).trans (h.block k hk hb)⟩
/-- What stands behind a frame's kind. -/
def frameRest (x : Int × List UInt8 × Int) : FrameD × List UInt8 × Int :=
  if x.1 = 1 then (⟨1, (readNum x.2.1 x.2.2).1, 0, (readOp (readNum x.2.1 x.2.2).2.1 (readNum x.2.1 x.2.2).2.2).1, ⟨#[]⟩⟩, (readOp (readNum x.2.1 x.2.2).2.1 (readNum x.2.1 x.2.2).2.2).2)
  else if x.1 = 3 then (⟨3, 0, (readNum x.2.1 x.2.2).1, [], (readText (readNum x.2.1 x.2.2).2.1 (readNum x.2.1 x.2.2).2.2).1⟩, (readText (readNum x.2.1 x.2.2).2.1 (readNum x.2.1 x.2.2).2.2).2)
  else (⟨x.1, (readNum (readNum x.2.1 x.2.2).2.1 (readNum x.2.1 x.2.2).2.2).1, (readNum x.2.1 x.2.2).1, [], ⟨#[]⟩⟩, (readNum (readNum x.2.1 x.2.2).2.1 (readNum x.2.1 x.2.2).2.2).2)
/-- A frame that is read. -/
def readFrame (l : List UInt8) (f : Int) : FrameD × List UInt8 × Int := frameRest (readNum l f)
/-- A call that reads a frame. -/
def RdFrame (B : Nat) (w : World) (x : FrameD × List UInt8 × Int) (e : Ending) (w' : World) : Prop :=
  ∃ A c, e = .returned (frameV x.1.kind x.1.heard x.1.epoch A x.1.op.length c x.1.text) ∧ OpIn (fun b => w.heap.size ≤ b ∧ b < w'.heap.size) w' A x.1.op ∧ Rd w' B x.2.1 x.2.2 ∧ Only B w w'
set_option maxHeartbeats 1000000 in
theorem rframe_e (w : World) (B : Nat) (l l1 l2 l3 : List UInt8) (f f1 f2 f3 : Int) (ps : List PartD) (h : Int) (hl2 : l2.length ≤ 50000) (hr : Rd w B l f)
    (HX : Hid (readNum l f = (1, l1, f1))) (HY : Hid (readNum l1 f1 = (h, l2, f2))) (HZ : Hid (readOp l2 f2 = (ps, l3, f3))) :
    Calls Tryd.prog 91 #[.pointer (some ⟨B, 0, none⟩)] w (RdFrame B w (⟨1, h, 0, ps, ⟨#[]⟩⟩, l3, f3)) := by
  have hBl := hr.lt
  obtain ⟨WA, hWA⟩ : ∃ WA, WA = w.alloc (.cells #[.int .i64 0, .int .i64 0, .int .i64 0, .slice none 0 0, .string ⟨#[]⟩] 35) := ⟨_, rfl⟩
  have g1 : WA.heap.size = w.heap.size + 1 := by rw [hWA]; simp
  have kA : Below w.heap.size w WA := by rw [hWA]; exact bAlloc (Below.refl _ _) _
  have HRA := Lib.hid (show FrameAt WA w.heap.size 0 0 0 none 0 0 ⟨#[]⟩ by rw [hWA]; exact heap_alloc_new _ _)
  have HRd := Lib.hid (hr.later kA)
  have HOA := Lib.hid (Only.of_below (B := B) kA)
  have HW := Lib.hid hWA
  have HT1 := Lib.hid (rtake_all WA B l f HRd.out)
  rw [HX.out] at HT1
  clear hr hWA kA
  go_enter Tryd.func91, Tryd.ntmps91
  go_wp2_with fail
  rw [← HW.out]
  refine HT1.out.mono ?_
  rintro e w1 ⟨rfl, hr1, ho1⟩
  try dsimp only at hr1
  have hz1 := ho1.size
  obtain ⟨WF, hWF⟩ : ∃ WF, WF = w1.alloc (.cells #[.int .i64 1, .int .i64 0, .int .i64 0, .slice none 0 0, .string ⟨#[]⟩] 35) := ⟨_, rfl⟩
  have g2 : WF.heap.size = w1.heap.size + 1 := by rw [hWF]; simp
  have kF : Below w1.heap.size w1 WF := by rw [hWF]; exact bAlloc (Below.refl _ _) _
  obtain ⟨F, hF⟩ : ∃ F, F = w1.heap.size := ⟨_, rfl⟩
  have HFE := Lib.hid hF
  have hF1 : w1.heap.size ≤ F ∧ F < WF.heap.size ∧ B < F := by omega
  have HFF := Lib.hid (show FrameAt WF F 1 0 0 none 0 0 ⟨#[]⟩ by rw [hWF, hF]; exact heap_alloc_new _ _)
  have HRd1 := Lib.hid (hr1.later kF)
  have HRF := Lib.hid (show FrameAt WF w.heap.size 0 0 0 none 0 0 ⟨#[]⟩ from (kF.block _ (by omega)).trans ((ho1.block _ (by omega) (by omega)).trans HRA.out))
  have HOF := Lib.hid ((HOA.out.trans ho1).trans (Only.of_below (B := B) kF))
  have HWF := Lib.hid hWF
  have HT2 := Lib.hid (rtake_all WF B l1 f1 HRd1.out)
  rw [HY.out] at HT2
  clear hr1 hWF kF HT1 ho1 hF g2
  go_wp2_with fail
  rw [← HWF.out]
  rw [← HFE.out]
  refine HT2.out.mono ?_
  rintro e w2 ⟨rfl, hr2, ho2⟩
  try dsimp only at hr2
  have hz2 := ho2.size
  have HF2 := Lib.hid (show FrameAt w2 F 1 0 0 none 0 0 ⟨#[]⟩ from (ho2.block _ (by omega) (by omega)).trans HFF.out)
  obtain ⟨W2, hW2⟩ : ∃ W2, W2 = w2.setCell ⟨F, 1, none⟩ (.int .i64 h) := ⟨_, rfl⟩
  have hz3 : W2.heap.size = w2.heap.size := by rw [hW2]; simp [World.setCell]
  have HFS := Lib.hid (show FrameAt W2 F 1 h 0 none 0 0 ⟨#[]⟩ by rw [hW2]; exact any_set 1 _ HF2.out)
  have HRd2 := Lib.hid (show Rd W2 B l2 f2 by rw [hW2]; exact hr2.keep (fun k hk => Below.heap_setCell _ _ _ _ (show k ≠ F by omega)))
  have HR2 := Lib.hid (show FrameAt W2 w.heap.size 0 0 0 none 0 0 ⟨#[]⟩ by rw [hW2]; exact (Below.heap_setCell _ _ _ _ (show w.heap.size ≠ F by omega)).trans ((ho2.block _ (by omega) (by omega)).trans HRF.out))
  have HO2 := Lib.hid (show Only B w W2 by rw [hW2]; exact (HOF.out.trans ho2).put (show w.heap.size ≤ F by omega))
  have HW2 := Lib.hid hW2
  have HT3 := Lib.hid (rop_c W2 B l2 f2 HRd2.out hl2)
  rw [HZ.out] at HT3
  obtain ⟨u0, u1, u2, u3, u4, v0, v1, v2, v3, v4, vz⟩ := five_cell HF2.out
  clear hr2 hW2 HT2 ho2
  go_wp2_with fail
  rw [← HW2.out]
  refine HT3.out.mono ?_
  rintro e w3 ⟨A3, c3, rfl, ho3, hr3, on3⟩
  try dsimp only at hr3
  have hz4 := on3.size
  have HF3 := Lib.hid (show FrameAt w3 F 1 h 0 none 0 0 ⟨#[]⟩ from (on3.block _ (by omega) (by omega)).trans HFS.out)
  obtain ⟨W3, hW3⟩ : ∃ W3, W3 = w3.setCell ⟨F, 3, none⟩ (.slice A3 ps.length c3) := ⟨_, rfl⟩
  have hz5 : W3.heap.size = w3.heap.size := by rw [hW3]; simp [World.setCell]
  have HFT := Lib.hid (show FrameAt W3 F 1 h 0 A3 ps.length c3 ⟨#[]⟩ by rw [hW3]; exact any_set 3 _ HF3.out)
  have HRd3 := Lib.hid (show Rd W3 B l3 f3 by rw [hW3]; exact hr3.keep (fun k hk => Below.heap_setCell _ _ _ _ (show k ≠ F by omega)))
  have HR3w := Lib.hid (show FrameAt w3 w.heap.size 0 0 0 none 0 0 ⟨#[]⟩ from (on3.block _ (by omega) (by omega)).trans HR2.out)
  have HR3 := Lib.hid (show FrameAt W3 w.heap.size 0 0 0 none 0 0 ⟨#[]⟩ by rw [hW3]; exact (Below.heap_setCell _ _ _ _ (show w.heap.size ≠ F by omega)).trans ((on3.block _ (by omega) (by omega)).trans HR2.out))
  have HO3 := Lib.hid (show Only B w W3 by rw [hW3]; exact (HO2.out.trans on3).put (show w.heap.size ≤ F by omega))
  have HOP := Lib.hid (show OpIn (fun b => F < b ∧ b < W3.heap.size) W3 A3 ps by rw [hz5, hW3]; exact (Sl.of_own w3 ho3).moved fun b hb => ⟨⟨by omega, hb.2⟩, Below.heap_setCell _ _ _ _ (show b ≠ F by omega)⟩)
  have HW3 := Lib.hid hW3
  obtain ⟨x0, x1, x2, x3, x4, y0, y1, y2, y3, y4, yz⟩ := five_cell HF3.out
  clear u0 u1 u2 u3 u4 v0 v1 v2 v3 v4 vz
  obtain ⟨u0, u1, u2, u3, u4, v0, v1, v2, v3, v4, vz⟩ := five_cell HR3w.out
  have hRF : w.heap.size ≠ F := by omega
  have n1 : ¬ w.heap.size = F := by omega
  have n2 : ¬ F = w.heap.size := by omega
  clear hr3 hW3 HT3 on3 ho3
  go_wp2_with fail
  rw [← HW3.out]
  obtain ⟨W9, hW9⟩ : ∃ W9, W9 = (((((W3.setCell ⟨w.heap.size, 0, none⟩ (.int .i64 1)).setCell ⟨w.heap.size, 1, none⟩ (.int .i64 h)).setCell ⟨w.heap.size, 2, none⟩ (.int .i64 0)).setCell ⟨w.heap.size, 3, none⟩ (.slice A3 ps.length c3)).setCell ⟨w.heap.size, 4, none⟩ (.string ⟨#[]⟩)) := ⟨_, rfl⟩
  rw [← hW9]
  have hO : Only w.heap.size W3 W9 := by rw [hW9]; exact ((((Only.set _ _ _).trans (Only.set _ _ _)).trans (Only.set _ _ _)).trans (Only.set _ _ _)).trans (Only.set _ _ _)
  have hR9 : FrameAt W9 w.heap.size 1 h 0 A3 ps.length c3 ⟨#[]⟩ := by
    rw [hW9]
    exact any_set 4 _ (any_set 3 _ (any_set 2 _ (any_set 1 _ (any_set 0 _ HR3.out))))
  clear hW9
  have hR9' := hR9
  clear u0 u1 u2 u3 u4 v0 v1 v2 v3 v4 vz
  obtain ⟨u0, u1, u2, u3, u4, _, _, _, _, _, _⟩ := five_cell hR9'
  refine bodyPost_ret (v := frameV 1 h 0 A3 ps.length c3 ⟨#[]⟩) (by simp [results, Tryd.results91, go_sem, u0, u1, u2, u3, u4]) rfl ?_
  exact ⟨A3, c3, rfl, HOP.out.moved fun b hb => ⟨⟨by omega, Nat.lt_of_lt_of_le hb.2 hO.size⟩, hO.block b hb.2 (by omega)⟩, HRd3.out.keep (fun k hk => hO.block k (by omega) (by omega)), HO3.out.fresh hO (Nat.le_refl _)⟩
set_option maxHeartbeats 1000000 in
theorem rframe_t (w : World) (B : Nat) (l l1 l2 l3 : List UInt8) (f f1 f2 f3 : Int) (s : ByteArray) (ep : Int) (hr : Rd w B l f)
    (HX : Hid (readNum l f = (3, l1, f1))) (HY : Hid (readNum l1 f1 = (ep, l2, f2))) (HZ : Hid (readText l2 f2 = (s, l3, f3))) :
    Calls Tryd.prog 91 #[.pointer (some ⟨B, 0, none⟩)] w (RdFrame B w (⟨3, 0, ep, [], s⟩, l3, f3)) := by
  have hBl := hr.lt
  obtain ⟨WA, hWA⟩ : ∃ WA, WA = w.alloc (.cells #[.int .i64 0, .int .i64 0, .int .i64 0, .slice none 0 0, .string ⟨#[]⟩] 35) := ⟨_, rfl⟩
  have g1 : WA.heap.size = w.heap.size + 1 := by rw [hWA]; simp
  have kA : Below w.heap.size w WA := by rw [hWA]; exact bAlloc (Below.refl _ _) _
  have HRA := Lib.hid (show FrameAt WA w.heap.size 0 0 0 none 0 0 ⟨#[]⟩ by rw [hWA]; exact heap_alloc_new _ _)
  have HRd := Lib.hid (hr.later kA)
  have HOA := Lib.hid (Only.of_below (B := B) kA)
  have HW := Lib.hid hWA
  have HT1 := Lib.hid (rtake_all WA B l f HRd.out)
  rw [HX.out] at HT1
  clear hr hWA kA
  go_enter Tryd.func91, Tryd.ntmps91
  go_wp2_with fail
  rw [← HW.out]
  refine HT1.out.mono ?_
  rintro e w1 ⟨rfl, hr1, ho1⟩
  try dsimp only at hr1
  have hz1 := ho1.size
  obtain ⟨WF, hWF⟩ : ∃ WF, WF = w1.alloc (.cells #[.int .i64 3, .int .i64 0, .int .i64 0, .slice none 0 0, .string ⟨#[]⟩] 35) := ⟨_, rfl⟩
  have g2 : WF.heap.size = w1.heap.size + 1 := by rw [hWF]; simp
  have kF : Below w1.heap.size w1 WF := by rw [hWF]; exact bAlloc (Below.refl _ _) _
  obtain ⟨F, hF⟩ : ∃ F, F = w1.heap.size := ⟨_, rfl⟩
  have HFE := Lib.hid hF
  have hF1 : w1.heap.size ≤ F ∧ F < WF.heap.size ∧ B < F := by omega
  have HFF := Lib.hid (show FrameAt WF F 3 0 0 none 0 0 ⟨#[]⟩ by rw [hWF, hF]; exact heap_alloc_new _ _)
  have HRd1 := Lib.hid (hr1.later kF)
  have HRF := Lib.hid (show FrameAt WF w.heap.size 0 0 0 none 0 0 ⟨#[]⟩ from (kF.block _ (by omega)).trans ((ho1.block _ (by omega) (by omega)).trans HRA.out))
  have HOF := Lib.hid ((HOA.out.trans ho1).trans (Only.of_below (B := B) kF))
  have HWF := Lib.hid hWF
  have HT2 := Lib.hid (rtake_all WF B l1 f1 HRd1.out)
  rw [HY.out] at HT2
  clear hr1 hWF kF HT1 ho1 hF g2
  go_wp2_with fail
  rw [← HWF.out]
  rw [← HFE.out]
  refine HT2.out.mono ?_
  rintro e w2 ⟨rfl, hr2, ho2⟩
  try dsimp only at hr2
  have hz2 := ho2.size
  have HF2 := Lib.hid (show FrameAt w2 F 3 0 0 none 0 0 ⟨#[]⟩ from (ho2.block _ (by omega) (by omega)).trans HFF.out)
  obtain ⟨W2, hW2⟩ : ∃ W2, W2 = w2.setCell ⟨F, 2, none⟩ (.int .i64 ep) := ⟨_, rfl⟩
  have hz3 : W2.heap.size = w2.heap.size := by rw [hW2]; simp [World.setCell]
  have HFS := Lib.hid (show FrameAt W2 F 3 0 ep none 0 0 ⟨#[]⟩ by rw [hW2]; exact any_set 2 _ HF2.out)
  have HRd2 := Lib.hid (show Rd W2 B l2 f2 by rw [hW2]; exact hr2.keep (fun k hk => Below.heap_setCell _ _ _ _ (show k ≠ F by omega)))
  have HR2 := Lib.hid (show FrameAt W2 w.heap.size 0 0 0 none 0 0 ⟨#[]⟩ by rw [hW2]; exact (Below.heap_setCell _ _ _ _ (show w.heap.size ≠ F by omega)).trans ((ho2.block _ (by omega) (by omega)).trans HRF.out))
  have HO2 := Lib.hid (show Only B w W2 by rw [hW2]; exact (HOF.out.trans ho2).put (show w.heap.size ≤ F by omega))
  have HW2 := Lib.hid hW2
  have HT3 := Lib.hid (rtext_c W2 B l2 f2 HRd2.out)
  rw [HZ.out] at HT3
  obtain ⟨u0, u1, u2, u3, u4, v0, v1, v2, v3, v4, vz⟩ := five_cell HF2.out
  clear hr2 hW2 HT2 ho2
  go_wp2_with fail
  rw [← HW2.out]
  refine HT3.out.mono ?_
  rintro e w3 ⟨rfl, hr3, on3⟩
  try dsimp only at hr3
  have hz4 := on3.size
  have HF3 := Lib.hid (show FrameAt w3 F 3 0 ep none 0 0 ⟨#[]⟩ from (on3.block _ (by omega) (by omega)).trans HFS.out)
  obtain ⟨W3, hW3⟩ : ∃ W3, W3 = w3.setCell ⟨F, 4, none⟩ (.string s) := ⟨_, rfl⟩
  have hz5 : W3.heap.size = w3.heap.size := by rw [hW3]; simp [World.setCell]
  have HFT := Lib.hid (show FrameAt W3 F 3 0 ep none 0 0 s by rw [hW3]; exact any_set 4 _ HF3.out)
  have HRd3 := Lib.hid (show Rd W3 B l3 f3 by rw [hW3]; exact hr3.keep (fun k hk => Below.heap_setCell _ _ _ _ (show k ≠ F by omega)))
  have HR3w := Lib.hid (show FrameAt w3 w.heap.size 0 0 0 none 0 0 ⟨#[]⟩ from (on3.block _ (by omega) (by omega)).trans HR2.out)
  have HR3 := Lib.hid (show FrameAt W3 w.heap.size 0 0 0 none 0 0 ⟨#[]⟩ by rw [hW3]; exact (Below.heap_setCell _ _ _ _ (show w.heap.size ≠ F by omega)).trans ((on3.block _ (by omega) (by omega)).trans HR2.out))
  have HO3 := Lib.hid (show Only B w W3 by rw [hW3]; exact (HO2.out.trans on3).put (show w.heap.size ≤ F by omega))
  have HW3 := Lib.hid hW3
  obtain ⟨x0, x1, x2, x3, x4, y0, y1, y2, y3, y4, yz⟩ := five_cell HF3.out
  clear u0 u1 u2 u3 u4 v0 v1 v2 v3 v4 vz
  obtain ⟨u0, u1, u2, u3, u4, v0, v1, v2, v3, v4, vz⟩ := five_cell HR3w.out
  have hRF : w.heap.size ≠ F := by omega
  have n1 : ¬ w.heap.size = F := by omega
  have n2 : ¬ F = w.heap.size := by omega
  clear hr3 hW3 HT3 on3
  go_wp2_with fail
  rw [← HW3.out]
  obtain ⟨W9, hW9⟩ : ∃ W9, W9 = (((((W3.setCell ⟨w.heap.size, 0, none⟩ (.int .i64 3)).setCell ⟨w.heap.size, 1, none⟩ (.int .i64 0)).setCell ⟨w.heap.size, 2, none⟩ (.int .i64 ep)).setCell ⟨w.heap.size, 3, none⟩ (.slice none 0 0)).setCell ⟨w.heap.size, 4, none⟩ (.string s)) := ⟨_, rfl⟩
  rw [← hW9]
  have hO : Only w.heap.size W3 W9 := by rw [hW9]; exact ((((Only.set _ _ _).trans (Only.set _ _ _)).trans (Only.set _ _ _)).trans (Only.set _ _ _)).trans (Only.set _ _ _)
  have hR9 : FrameAt W9 w.heap.size 3 0 ep none 0 0 s := by
    rw [hW9]
    exact any_set 4 _ (any_set 3 _ (any_set 2 _ (any_set 1 _ (any_set 0 _ HR3.out))))
  clear hW9
  have hR9' := hR9
  clear u0 u1 u2 u3 u4 v0 v1 v2 v3 v4 vz
  obtain ⟨u0, u1, u2, u3, u4, _, _, _, _, _, _⟩ := five_cell hR9'
  refine bodyPost_ret (v := frameV 3 0 ep none 0 0 s) (by simp [results, Tryd.results91, go_sem, u0, u1, u2, u3, u4]) rfl ?_
  exact ⟨none, 0, rfl, Sl.nil, HRd3.out.keep (fun k hk => hO.block k (by omega) (by omega)), HO3.out.fresh hO (Nat.le_refl _)⟩
set_option maxHeartbeats 1000000 in
theorem rframe_n (w : World) (B : Nat) (l l1 l2 l3 : List UInt8) (f f1 f2 f3 : Int) (k h : Int) (_k1 : (k == 1) = false) (_k3 : (k == 3) = false) (ep : Int) (hr : Rd w B l f)
    (HX : Hid (readNum l f = (k, l1, f1))) (HY : Hid (readNum l1 f1 = (ep, l2, f2))) (HZ : Hid (readNum l2 f2 = (h, l3, f3))) :
    Calls Tryd.prog 91 #[.pointer (some ⟨B, 0, none⟩)] w (RdFrame B w (⟨k, h, ep, [], ⟨#[]⟩⟩, l3, f3)) := by
  have hBl := hr.lt
  obtain ⟨WA, hWA⟩ : ∃ WA, WA = w.alloc (.cells #[.int .i64 0, .int .i64 0, .int .i64 0, .slice none 0 0, .string ⟨#[]⟩] 35) := ⟨_, rfl⟩
  have g1 : WA.heap.size = w.heap.size + 1 := by rw [hWA]; simp
  have kA : Below w.heap.size w WA := by rw [hWA]; exact bAlloc (Below.refl _ _) _
  have HRA := Lib.hid (show FrameAt WA w.heap.size 0 0 0 none 0 0 ⟨#[]⟩ by rw [hWA]; exact heap_alloc_new _ _)
  have HRd := Lib.hid (hr.later kA)
  have HOA := Lib.hid (Only.of_below (B := B) kA)
  have HW := Lib.hid hWA
  have HT1 := Lib.hid (rtake_all WA B l f HRd.out)
  rw [HX.out] at HT1
  clear hr hWA kA
  go_enter Tryd.func91, Tryd.ntmps91
  go_wp2_with fail
  rw [← HW.out]
  refine HT1.out.mono ?_
  rintro e w1 ⟨rfl, hr1, ho1⟩
  try dsimp only at hr1
  have hz1 := ho1.size
  obtain ⟨WF, hWF⟩ : ∃ WF, WF = w1.alloc (.cells #[.int .i64 k, .int .i64 0, .int .i64 0, .slice none 0 0, .string ⟨#[]⟩] 35) := ⟨_, rfl⟩
  have g2 : WF.heap.size = w1.heap.size + 1 := by rw [hWF]; simp
  have kF : Below w1.heap.size w1 WF := by rw [hWF]; exact bAlloc (Below.refl _ _) _
  obtain ⟨F, hF⟩ : ∃ F, F = w1.heap.size := ⟨_, rfl⟩
  have HFE := Lib.hid hF
  have hF1 : w1.heap.size ≤ F ∧ F < WF.heap.size ∧ B < F := by omega
  have HFF := Lib.hid (show FrameAt WF F k 0 0 none 0 0 ⟨#[]⟩ by rw [hWF, hF]; exact heap_alloc_new _ _)
  have HRd1 := Lib.hid (hr1.later kF)
  have HRF := Lib.hid (show FrameAt WF w.heap.size 0 0 0 none 0 0 ⟨#[]⟩ from (kF.block _ (by omega)).trans ((ho1.block _ (by omega) (by omega)).trans HRA.out))
  have HOF := Lib.hid ((HOA.out.trans ho1).trans (Only.of_below (B := B) kF))
  have HWF := Lib.hid hWF
  have HT2 := Lib.hid (rtake_all WF B l1 f1 HRd1.out)
  rw [HY.out] at HT2
  clear hr1 hWF kF HT1 ho1 hF g2
  go_wp2_with fail
  rw [← HWF.out]
  rw [← HFE.out]
  refine HT2.out.mono ?_
  rintro e w2 ⟨rfl, hr2, ho2⟩
  try dsimp only at hr2
  have hz2 := ho2.size
  have HF2 := Lib.hid (show FrameAt w2 F k 0 0 none 0 0 ⟨#[]⟩ from (ho2.block _ (by omega) (by omega)).trans HFF.out)
  obtain ⟨W2, hW2⟩ : ∃ W2, W2 = w2.setCell ⟨F, 2, none⟩ (.int .i64 ep) := ⟨_, rfl⟩
  have hz3 : W2.heap.size = w2.heap.size := by rw [hW2]; simp [World.setCell]
  have HFS := Lib.hid (show FrameAt W2 F k 0 ep none 0 0 ⟨#[]⟩ by rw [hW2]; exact any_set 2 _ HF2.out)
  have HRd2 := Lib.hid (show Rd W2 B l2 f2 by rw [hW2]; exact hr2.keep (fun k hk => Below.heap_setCell _ _ _ _ (show k ≠ F by omega)))
  have HR2 := Lib.hid (show FrameAt W2 w.heap.size 0 0 0 none 0 0 ⟨#[]⟩ by rw [hW2]; exact (Below.heap_setCell _ _ _ _ (show w.heap.size ≠ F by omega)).trans ((ho2.block _ (by omega) (by omega)).trans HRF.out))
  have HO2 := Lib.hid (show Only B w W2 by rw [hW2]; exact (HOF.out.trans ho2).put (show w.heap.size ≤ F by omega))
  have HW2 := Lib.hid hW2
  have HT3 := Lib.hid (rtake_all W2 B l2 f2 HRd2.out)
  rw [HZ.out] at HT3
  obtain ⟨u0, u1, u2, u3, u4, v0, v1, v2, v3, v4, vz⟩ := five_cell HF2.out
  clear hr2 hW2 HT2 ho2
  go_wp2_with fail
  rw [← HW2.out]
  refine HT3.out.mono ?_
  rintro e w3 ⟨rfl, hr3, on3⟩
  try dsimp only at hr3
  have hz4 := on3.size
  have HF3 := Lib.hid (show FrameAt w3 F k 0 ep none 0 0 ⟨#[]⟩ from (on3.block _ (by omega) (by omega)).trans HFS.out)
  obtain ⟨W3, hW3⟩ : ∃ W3, W3 = w3.setCell ⟨F, 1, none⟩ (.int .i64 h) := ⟨_, rfl⟩
  have hz5 : W3.heap.size = w3.heap.size := by rw [hW3]; simp [World.setCell]
  have HFT := Lib.hid (show FrameAt W3 F k h ep none 0 0 ⟨#[]⟩ by rw [hW3]; exact any_set 1 _ HF3.out)
  have HRd3 := Lib.hid (show Rd W3 B l3 f3 by rw [hW3]; exact hr3.keep (fun k hk => Below.heap_setCell _ _ _ _ (show k ≠ F by omega)))
  have HR3w := Lib.hid (show FrameAt w3 w.heap.size 0 0 0 none 0 0 ⟨#[]⟩ from (on3.block _ (by omega) (by omega)).trans HR2.out)
  have HR3 := Lib.hid (show FrameAt W3 w.heap.size 0 0 0 none 0 0 ⟨#[]⟩ by rw [hW3]; exact (Below.heap_setCell _ _ _ _ (show w.heap.size ≠ F by omega)).trans ((on3.block _ (by omega) (by omega)).trans HR2.out))
  have HO3 := Lib.hid (show Only B w W3 by rw [hW3]; exact (HO2.out.trans on3).put (show w.heap.size ≤ F by omega))
  have HW3 := Lib.hid hW3
  obtain ⟨x0, x1, x2, x3, x4, y0, y1, y2, y3, y4, yz⟩ := five_cell HF3.out
  clear u0 u1 u2 u3 u4 v0 v1 v2 v3 v4 vz
  obtain ⟨u0, u1, u2, u3, u4, v0, v1, v2, v3, v4, vz⟩ := five_cell HR3w.out
  have hRF : w.heap.size ≠ F := by omega
  have n1 : ¬ w.heap.size = F := by omega
  have n2 : ¬ F = w.heap.size := by omega
  clear hr3 hW3 HT3 on3
  go_wp2_with fail
  rw [← HW3.out]
  obtain ⟨W9, hW9⟩ : ∃ W9, W9 = (((((W3.setCell ⟨w.heap.size, 0, none⟩ (.int .i64 k)).setCell ⟨w.heap.size, 1, none⟩ (.int .i64 h)).setCell ⟨w.heap.size, 2, none⟩ (.int .i64 ep)).setCell ⟨w.heap.size, 3, none⟩ (.slice none 0 0)).setCell ⟨w.heap.size, 4, none⟩ (.string ⟨#[]⟩)) := ⟨_, rfl⟩
  rw [← hW9]
  have hO : Only w.heap.size W3 W9 := by rw [hW9]; exact ((((Only.set _ _ _).trans (Only.set _ _ _)).trans (Only.set _ _ _)).trans (Only.set _ _ _)).trans (Only.set _ _ _)
  have hR9 : FrameAt W9 w.heap.size k h ep none 0 0 ⟨#[]⟩ := by
    rw [hW9]
    exact any_set 4 _ (any_set 3 _ (any_set 2 _ (any_set 1 _ (any_set 0 _ HR3.out))))
  clear hW9
  have hR9' := hR9
  clear u0 u1 u2 u3 u4 v0 v1 v2 v3 v4 vz
  obtain ⟨u0, u1, u2, u3, u4, _, _, _, _, _, _⟩ := five_cell hR9'
  refine bodyPost_ret (v := frameV k h ep none 0 0 ⟨#[]⟩) (by simp [results, Tryd.results91, go_sem, u0, u1, u2, u3, u4]) rfl ?_
  exact ⟨none, 0, rfl, Sl.nil, HRd3.out.keep (fun k hk => hO.block k (by omega) (by omega)), HO3.out.fresh hO (Nat.le_refl _)⟩
theorem rframe_c (w : World) (B : Nat) (l : List UInt8) (f : Int) (hr : Rd w B l f) (hl : l.length ≤ 50000) : Calls Tryd.prog 91 #[.pointer (some ⟨B, 0, none⟩)] w (RdFrame B w (readFrame l f)) := by
  unfold readFrame frameRest
  have hl1 := (readNum_any l f).len
  rcases hx : readNum l f with ⟨k, l1, f1⟩
  rw [hx] at hl1
  dsimp only at hl1 ⊢
  have hl2 := (readNum_any l1 f1).len
  rcases hy : readNum l1 f1 with ⟨h, l2, f2⟩
  rw [hy] at hl2
  dsimp only at hl2 ⊢
  by_cases k1 : k = 1
  · subst k1
    rw [if_pos rfl]
    rcases hz : readOp l2 f2 with ⟨ps, l3, f3⟩
    exact rframe_e w B l l1 l2 l3 f f1 f2 f3 ps h (by omega) hr hx hy hz
  rw [if_neg k1]
  by_cases k3 : k = 3
  · subst k3
    rw [if_pos rfl]
    rcases hz : readText l2 f2 with ⟨s, l3, f3⟩
    exact rframe_t w B l l1 l2 l3 f f1 f2 f3 s h hr hx hy hz
  rw [if_neg k3]
  rcases hz : readNum l2 f2 with ⟨hh, l3, f3⟩
  exact rframe_n w B l l1 l2 l3 f f1 f2 f3 k hh (by simpa using k1) (by simpa using k3) h hr hx hy hz
end Go.Proofs.YtieofljkgmkaiaaDoor
