/-
  Contract of the reference's SelectedOf.
  Contract of the reference's SelectedOf: where it refuses.
  node.Select and the reference's SelectedOf, in one contract each: what they answer.
-/
import Derived.Test.YtbmdepbmejnlkaaDoorRows
import Derived.Test.YtbmdepbmejnlkaaDoorBM
import Derived.Test.YtbmdepbmejnlkaaDoorBL
namespace Go.Proofs.YtbmdepbmejnlkaaDoor
open Go.ChangeShapes Go.WideShapes Go.ChangeAt Go.RowKit
set_option maxRecDepth 100000
set_option maxHeartbeats 2000000 in
theorem Selected_ok (w : World) (T : Option Addr) (N Nc : Nat) (zs : List Int) (n : NodeV) (a h : Int) (hT : Tabs w) (hi : n.In w) (hm : n.Small) (hz : Sl (· < w.heap.size) w 1 T N (zs.map (Value.int .i64))) (hN : N ≤ 9223372036854775807) (h0 : nodeFault zs n = 0) (hrd : n.rd = true) (hmk : markOk (runesI n.t) (a, h)) :
    Calls Tryd.prog 21 #[.slice T N Nc, n.val, markV (a, h)] w (RetTurn0 w ⟨n.me, n.ep, n.up, n.rd, n.t, n.S.map SideV.d, n.U.map OpV.ps, [(a, h)]⟩ 0) := by
  obtain ⟨me, ep, up, rd, t, sA, sc, S, uA, uc, U, mA, mc, M⟩ := n
  dsimp only at hrd hmk
  subst hrd
  have H1 := Lib.hid (fun W hT (hi : NodeV.In W ⟨me, ep, up, true, t, sA, sc, S, uA, uc, U, mA, mc, M⟩) hz => NodeFault_c W T N Nc zs ⟨me, ep, up, true, t, sA, sc, S, uA, uc, U, mA, mc, M⟩ hT hi hm hz hN)
  rw [h0] at H1
  have HMK : Hid (∀ W, Calls Tryd.prog 38 #[.string t, .agg #[.int .i64 a, .int .i64 h]] W fun r w' => r = .returned (.bool true) ∧ Below W.heap.size W w') := Lib.hid (fun W => (markMay_c W t (a, h) hm.text).mono fun r w' ⟨⟨b, e, hb⟩, k⟩ => ⟨by rw [e, hb.2 hmk], k⟩)
  have HCP := Lib.hid (fun W (hi : NodeV.In W ⟨me, ep, up, true, t, sA, sc, S, uA, uc, U, mA, mc, M⟩) => NodeCopy_c W ⟨me, ep, up, true, t, sA, sc, S, uA, uc, U, mA, mc, M⟩ hi hm)
  have HT := Lib.hid hT
  have HZ := Lib.hid hz
  have HI := Lib.hid hi
  clear hT hz hi hm h0 hmk
  have HA := Lib.hid (SelAt.new w #[.int .i64 me, .int .i64 ep, .int .i64 up, .bool true, .string t, .slice sA S.length sc, .slice uA U.length uc, .slice mA M.length mc] a h)
  obtain ⟨WA, hWA⟩ : ∃ WA, WA = (((w.alloc (.cells #[.int .i64 me, .int .i64 ep, .int .i64 up, .bool true, .string t, .slice sA S.length sc, .slice uA U.length uc, .slice mA M.length mc] 28)).alloc (.cells #[.int .i64 a, .int .i64 h] 52)).alloc (.cells #[.int .i64 0, .int .i64 0, .int .i64 0, .bool false, .string ⟨#[]⟩, .slice none 0 0, .slice none 0 0, .slice none 0 0, .slice none 0 0, .slice none 0 0] 35)) := ⟨_, rfl⟩
  rw [← hWA] at HA
  have HW := Lib.hid hWA.symm
  obtain ⟨R, hR⟩ : ∃ R, R = w.heap.size + 1 + 1 := ⟨_, rfl⟩
  rw [← hR] at HA
  have HRE := Lib.hid hR.symm
  clear hWA hR
  go_enter Tryd.func21, Tryd.ntmps21
  go_wp2_with fail
  rw [HW.out, HRE.out]
  refine (H1.out _ (HT.out.later HA.out.b) (HI.out.later HA.out.b) (Sl.later HZ.out HA.out.b)).mono ?_
  rintro r w1 ⟨rfl, hb1⟩
  have HB := Lib.hid (HA.out.later hb1)
  obtain ⟨n0, n1, n2, n3, n4, n5, n6, n7, nz⟩ := eight_cell HB.out.nd
  clear hb1
  obtain ⟨k0, k1, _, _, kz⟩ := two_cell HB.out.mc
  go_wp2_with fail
  refine (HMK.out _).mono ?_
  rintro r w2 ⟨rfl, hb2⟩
  have HC := Lib.hid (HB.out.later hb2)
  clear hb2 n0 n1 n2 n3 n4 n5 n6 n7 nz k0 k1 kz
  obtain ⟨n0, n1, n2, n3, n4, n5, n6, n7, nz⟩ := eight_cell HC.out.nd
  go_wp2_with fail
  refine (HCP.out _ (HI.out.later HC.out.b)).mono ?_
  rintro r w3 ⟨⟨me', ep', up', rd', t', sA', sc', S', uA', uc', U', mA', mc', M'⟩, rfl, hd, hin, hb3⟩
  simp only [NodeV.d, NodeD.mk.injEq] at hd
  obtain ⟨e1, e2, e3, e4, e5, hd6, hd7, -⟩ := hd
  have e1 := e1.symm
  have e2 := e2.symm
  have e3 := e3.symm
  have e5 := e5.symm
  subst e1 e2 e3 e4 e5
  have HD := Lib.hid (HC.out.later hb3)
  have hRX : R < w3.heap.size := HD.out.rz
  have hRC := HC.out.rz
  obtain ⟨k0, k1, _, _, kz⟩ := two_cell HD.out.mc
  obtain ⟨r0, r1, r2, r3, r4, r5, r6, r7, r8, r9, rz⟩ := ten_cell HD.out.r
  have F0 := tenF HD.out.r 0
  have F1 := tenF HD.out.r 1
  have F2 := tenF HD.out.r 2
  have F3 := tenF HD.out.r 3
  have F4 := tenF HD.out.r 4
  have F5 := tenF HD.out.r 5
  have F6 := tenF HD.out.r 6
  have F7 := tenF HD.out.r 7
  have F8 := tenF HD.out.r 8
  have F9 := tenF HD.out.r 9
  have HIN := Lib.hid hin
  have HD6 := Lib.hid hd6
  have HD7 := Lib.hid hd7
  clear hin hd6 hd7 hb3
  clear n0 n1 n2 n3 n4 n5 n6 n7 nz
  go_wp2_with fail
  have hO8 : Only R w3 ((((((((((w3.setCell ⟨R, 0, none⟩ (.int .i64 me)).setCell ⟨R, 1, none⟩ (.int .i64 ep)).setCell ⟨R, 2, none⟩ (.int .i64 up)).setCell ⟨R, 3, none⟩ (.bool true)).setCell ⟨R, 4, none⟩ (.string t)).setCell ⟨R, 5, none⟩ (.slice sA' S'.length sc')).setCell ⟨R, 6, none⟩ (.slice uA' U'.length uc')).setCell ⟨R, 7, none⟩ (.slice (some ⟨w3.heap.size + 1, 0, none⟩) 1 1)).setCell ⟨R, 8, none⟩ (.slice none 0 0)).setCell ⟨R, 9, none⟩ (.slice none 0 0)) := (((((((((Only.set _ _ _).trans (Only.set _ _ _)).trans (Only.set _ _ _)).trans (Only.set _ _ _)).trans (Only.set _ _ _)).trans (Only.set _ _ _)).trans (Only.set _ _ _)).trans (Only.set _ _ _)).trans (Only.set _ _ _)).trans (Only.set _ _ _)
  have hR8 := ten_sets HD.out.r (.int .i64 me) (.int .i64 ep) (.int .i64 up) (.bool true) (.string t) (.slice sA' S'.length sc') (.slice uA' U'.length uc') (.slice (some ⟨w3.heap.size + 1, 0, none⟩) 1 1) (.slice none 0 0) (.slice none 0 0)
  have hz8 : ((((((((((w3.setCell ⟨R, 0, none⟩ (.int .i64 me)).setCell ⟨R, 1, none⟩ (.int .i64 ep)).setCell ⟨R, 2, none⟩ (.int .i64 up)).setCell ⟨R, 3, none⟩ (.bool true)).setCell ⟨R, 4, none⟩ (.string t)).setCell ⟨R, 5, none⟩ (.slice sA' S'.length sc')).setCell ⟨R, 6, none⟩ (.slice uA' U'.length uc')).setCell ⟨R, 7, none⟩ (.slice (some ⟨w3.heap.size + 1, 0, none⟩) 1 1)).setCell ⟨R, 8, none⟩ (.slice none 0 0)).setCell ⟨R, 9, none⟩ (.slice none 0 0)).heap.size = w3.heap.size := by simp [World.setCell]
  generalize ((((((((((w3.setCell ⟨R, 0, none⟩ (.int .i64 me)).setCell ⟨R, 1, none⟩ (.int .i64 ep)).setCell ⟨R, 2, none⟩ (.int .i64 up)).setCell ⟨R, 3, none⟩ (.bool true)).setCell ⟨R, 4, none⟩ (.string t)).setCell ⟨R, 5, none⟩ (.slice sA' S'.length sc')).setCell ⟨R, 6, none⟩ (.slice uA' U'.length uc')).setCell ⟨R, 7, none⟩ (.slice (some ⟨w3.heap.size + 1, 0, none⟩) 1 1)).setCell ⟨R, 8, none⟩ (.slice none 0 0)).setCell ⟨R, 9, none⟩ (.slice none 0 0)) = W8 at *
  refine post_hide (fun H => H.heap[R]? = some (.cells #[.int .i64 me, .int .i64 ep, .int .i64 up, .bool true, .string t, .slice sA' S'.length sc', .slice uA' U'.length uc', .slice (some ⟨w3.heap.size + 1, 0, none⟩) 1 1, .slice none 0 0, .slice none 0 0] 35 (0, 0)) ∧ NodeV.InS (fun b => w.heap.size ≤ b ∧ b < H.heap.size) H ⟨me, ep, up, true, t, sA', sc', S', uA', uc', U', some ⟨w3.heap.size + 1, 0, none⟩, 1, [(a, h)]⟩ ∧ Below w.heap.size w H)
    ⟨(heap_alloc_old _ _ _ (by rw [World.size_alloc]; omega)).trans ((heap_alloc_old _ _ _ (by omega)).trans hR8), ?_, ?_⟩ ?_
  · have hq : ∀ o W9, W8.alloc o = W9 → NodeV.InS (fun b => w.heap.size ≤ b ∧ b < (W9.alloc (.cells #[.int .i64 a, .int .i64 h] 52)).heap.size) (W9.alloc (.cells #[.int .i64 a, .int .i64 h] 52)) ⟨me, ep, up, true, t, sA', sc', S', uA', uc', U', some ⟨w3.heap.size + 1, 0, none⟩, 1, [(a, h)]⟩ := by
      intro o W9 e
      have hs : W9.heap.size = w3.heap.size + 1 := by rw [← e, World.size_alloc, hz8]
      have m1 := HIN.out.moved (S' := fun b => w.heap.size ≤ b ∧ b < (W9.alloc (.cells #[.int .i64 a, .int .i64 h] 52)).heap.size) (w' := W9.alloc (.cells #[.int .i64 a, .int .i64 h] 52)) (fun b hb => by
        have t1 := hb.1
        have t2 := hb.2
        have t3 : W9.heap[b]? = W8.heap[b]? := by rw [← e]; exact heap_alloc_old _ _ b (by omega)
        exact ⟨⟨by have := HC.out.b.size; omega, by rw [World.size_alloc]; omega⟩, (heap_alloc_old _ _ b (by omega)).trans (t3.trans (hO8.block b t2 (by omega)))⟩)
      have m3 := Sl.new (S := fun b => w.heap.size ≤ b ∧ b < (W9.alloc (.cells #[.int .i64 a, .int .i64 h] 52)).heap.size) W9 [.int .i64 a, .int .i64 h] 52 2 1 rfl ⟨by have := HD.out.b.size; omega, by rw [World.size_alloc]; omega⟩
      rw [hs] at m3
      exact ⟨m1.row, m1.each, m1.undo, m3⟩
    exact hq _ _ rfl
  · refine bAlloc (bAlloc ?_ _) _
    exact HD.out.b.trans (hO8.below (by have := HD.out.hr; omega) (by have := HD.out.b.size; omega))
  clear k0 k1 kz r0 r1 r2 r3 r4 r5 r6 r7 r8 r9 rz F0 F1 F2 F3 F4 F5 F6 F7 F8 F9 hO8 hR8 hz8
  rintro H ⟨j1, j2, j3⟩
  obtain ⟨r0, r1, r2, r3, r4, r5, r6, r7, r8, r9, rz⟩ := ten_cell j1
  refine bodyPost_ret (v := .tuple #[.agg #[.int .i64 me, .int .i64 ep, .int .i64 up, .bool true, .string t, .slice sA' S'.length sc', .slice uA' U'.length uc', .slice (some ⟨w3.heap.size + 1, 0, none⟩) 1 1, .slice none 0 0, .slice none 0 0], .int .i64 0]) (by simp [results, Tryd.results21, go_sem, r0, r1, r2, r3, r4, r5, r6, r7, r8, r9]) rfl ?_
  exact ⟨⟨me, ep, up, true, t, sA', sc', S', uA', uc', U', some ⟨w3.heap.size + 1, 0, none⟩, 1, [(a, h)]⟩, rfl, by simp only [NodeV.d, HD6.out, HD7.out], j2, j3⟩
end Go.Proofs.YtbmdepbmejnlkaaDoor
namespace Go.Proofs.YtbmdepbmejnlkaaDoor
open Go.ChangeShapes Go.WideShapes Go.ChangeAt Go.RowKit
set_option maxRecDepth 100000
set_option maxHeartbeats 1000000 in
theorem Selected_fault (w : World) (T : Option Addr) (N Nc : Nat) (zs : List Int) (n : NodeV) (a h : Int) (hT : Tabs w) (hi : n.In w) (hm : n.Small) (hz : Sl (· < w.heap.size) w 1 T N (zs.map (Value.int .i64))) (hN : N ≤ 9223372036854775807) (er : Int) (h0 : nodeFault zs n = er) (hne : (er == 0) = false) :
    Calls Tryd.prog 21 #[.slice T N Nc, n.val, markV (a, h)] w (RetTurn0 w zeroN.d er) := by
  obtain ⟨me, ep, up, rd, t, sA, sc, S, uA, uc, U, mA, mc, M⟩ := n
  have H1 := Lib.hid (fun W hT (hi : NodeV.In W (⟨me, ep, up, rd, t, sA, sc, S, uA, uc, U, mA, mc, M⟩ : NodeV)) hz => NodeFault_c W T N Nc zs (⟨me, ep, up, rd, t, sA, sc, S, uA, uc, U, mA, mc, M⟩ : NodeV) hT hi hm hz hN)
  rw [h0] at H1
  have HT := Lib.hid hT
  have HZ := Lib.hid hz
  have HI := Lib.hid hi
  clear hT hz hi hm h0
  have HA := Lib.hid (SelAt.new w #[.int .i64 me, .int .i64 ep, .int .i64 up, .bool rd, .string t, .slice sA S.length sc, .slice uA U.length uc, .slice mA M.length mc] a h)
  obtain ⟨WA, hWA⟩ : ∃ WA, WA = (((w.alloc (.cells #[.int .i64 me, .int .i64 ep, .int .i64 up, .bool rd, .string t, .slice sA S.length sc, .slice uA U.length uc, .slice mA M.length mc] 28)).alloc (.cells #[.int .i64 a, .int .i64 h] 52)).alloc (.cells #[.int .i64 0, .int .i64 0, .int .i64 0, .bool false, .string ⟨#[]⟩, .slice none 0 0, .slice none 0 0, .slice none 0 0, .slice none 0 0, .slice none 0 0] 35)) := ⟨_, rfl⟩
  rw [← hWA] at HA
  have HW := Lib.hid hWA.symm
  obtain ⟨R, hR⟩ : ∃ R, R = w.heap.size + 1 + 1 := ⟨_, rfl⟩
  rw [← hR] at HA
  have HRE := Lib.hid hR.symm
  clear hWA hR
  go_enter Tryd.func21, Tryd.ntmps21
  go_wp2_with fail
  rw [HW.out, HRE.out]
  refine (H1.out _ (HT.out.later HA.out.b) (HI.out.later HA.out.b) (Sl.later HZ.out HA.out.b)).mono ?_
  rintro r w1 ⟨rfl, hb1⟩
  have HB := Lib.hid (HA.out.later hb1)
  clear hb1
  have hne' : (er != 0) = true := by simp [bne, hne]
  obtain ⟨r0, r1, r2, r3, r4, r5, r6, r7, r8, r9, rz⟩ := ten_cell HB.out.r
  have F0 := tenF HB.out.r 0
  have F1 := tenF HB.out.r 1
  have F2 := tenF HB.out.r 2
  have F3 := tenF HB.out.r 3
  have F4 := tenF HB.out.r 4
  have F5 := tenF HB.out.r 5
  have F6 := tenF HB.out.r 6
  have F7 := tenF HB.out.r 7
  have F8 := tenF HB.out.r 8
  have F9 := tenF HB.out.r 9
  go_wp2_with fail
  refine post_hide (fun H => H.heap[R]? = some (.cells #[.int .i64 0, .int .i64 0, .int .i64 0, .bool false, .string ⟨#[]⟩, .slice none 0 0, .slice none 0 0, .slice none 0 0, .slice none 0 0, .slice none 0 0] 35 (0, 0)) ∧ Below w.heap.size w H) ⟨ten_sets HB.out.r _ _ _ _ _ _ _ _ _ _, ?_⟩ ?_
  · have hwR : w.heap.size ≤ R := by have := HB.out.hr; omega
    repeat (refine bSet ?_ (by exact hwR) _)
    exact HB.out.b
  clear r0 r1 r2 r3 r4 r5 r6 r7 r8 r9 rz F0 F1 F2 F3 F4 F5 F6 F7 F8 F9
  rintro H ⟨j1, j3⟩
  obtain ⟨r0, r1, r2, r3, r4, r5, r6, r7, r8, r9, rz⟩ := ten_cell j1
  refine bodyPost_ret (v := .tuple #[.agg #[.int .i64 0, .int .i64 0, .int .i64 0, .bool false, .string ⟨#[]⟩, .slice none 0 0, .slice none 0 0, .slice none 0 0, .slice none 0 0, .slice none 0 0], .int .i64 er]) (by simp [results, Tryd.results21, go_sem, r0, r1, r2, r3, r4, r5, r6, r7, r8, r9]) rfl ?_
  exact ⟨zeroN, rfl, rfl, zeroN_inS _ _, j3⟩
set_option maxHeartbeats 1000000 in
theorem Selected_away (w : World) (T : Option Addr) (N Nc : Nat) (zs : List Int) (n : NodeV) (a h : Int) (hT : Tabs w) (hi : n.In w) (hm : n.Small) (hz : Sl (· < w.heap.size) w 1 T N (zs.map (Value.int .i64))) (hN : N ≤ 9223372036854775807) (h0 : nodeFault zs n = 0) (hrd : n.rd = false) :
    Calls Tryd.prog 21 #[.slice T N Nc, n.val, markV (a, h)] w (RetTurn0 w zeroN.d 12) := by
  obtain ⟨me, ep, up, rd, t, sA, sc, S, uA, uc, U, mA, mc, M⟩ := n
  dsimp only at hrd
  subst hrd
  have H1 := Lib.hid (fun W hT (hi : NodeV.In W (⟨me, ep, up, false, t, sA, sc, S, uA, uc, U, mA, mc, M⟩ : NodeV)) hz => NodeFault_c W T N Nc zs (⟨me, ep, up, false, t, sA, sc, S, uA, uc, U, mA, mc, M⟩ : NodeV) hT hi hm hz hN)
  rw [h0] at H1
  have HT := Lib.hid hT
  have HZ := Lib.hid hz
  have HI := Lib.hid hi
  clear hT hz hi hm h0
  have HA := Lib.hid (SelAt.new w #[.int .i64 me, .int .i64 ep, .int .i64 up, .bool false, .string t, .slice sA S.length sc, .slice uA U.length uc, .slice mA M.length mc] a h)
  obtain ⟨WA, hWA⟩ : ∃ WA, WA = (((w.alloc (.cells #[.int .i64 me, .int .i64 ep, .int .i64 up, .bool false, .string t, .slice sA S.length sc, .slice uA U.length uc, .slice mA M.length mc] 28)).alloc (.cells #[.int .i64 a, .int .i64 h] 52)).alloc (.cells #[.int .i64 0, .int .i64 0, .int .i64 0, .bool false, .string ⟨#[]⟩, .slice none 0 0, .slice none 0 0, .slice none 0 0, .slice none 0 0, .slice none 0 0] 35)) := ⟨_, rfl⟩
  rw [← hWA] at HA
  have HW := Lib.hid hWA.symm
  obtain ⟨R, hR⟩ : ∃ R, R = w.heap.size + 1 + 1 := ⟨_, rfl⟩
  rw [← hR] at HA
  have HRE := Lib.hid hR.symm
  clear hWA hR
  go_enter Tryd.func21, Tryd.ntmps21
  go_wp2_with fail
  rw [HW.out, HRE.out]
  refine (H1.out _ (HT.out.later HA.out.b) (HI.out.later HA.out.b) (Sl.later HZ.out HA.out.b)).mono ?_
  rintro r w1 ⟨rfl, hb1⟩
  have HB := Lib.hid (HA.out.later hb1)
  obtain ⟨n0, n1, n2, n3, n4, n5, n6, n7, nz⟩ := eight_cell HB.out.nd
  clear hb1
  obtain ⟨r0, r1, r2, r3, r4, r5, r6, r7, r8, r9, rz⟩ := ten_cell HB.out.r
  have F0 := tenF HB.out.r 0
  have F1 := tenF HB.out.r 1
  have F2 := tenF HB.out.r 2
  have F3 := tenF HB.out.r 3
  have F4 := tenF HB.out.r 4
  have F5 := tenF HB.out.r 5
  have F6 := tenF HB.out.r 6
  have F7 := tenF HB.out.r 7
  have F8 := tenF HB.out.r 8
  have F9 := tenF HB.out.r 9
  go_wp2_with fail
  refine post_hide (fun H => H.heap[R]? = some (.cells #[.int .i64 0, .int .i64 0, .int .i64 0, .bool false, .string ⟨#[]⟩, .slice none 0 0, .slice none 0 0, .slice none 0 0, .slice none 0 0, .slice none 0 0] 35 (0, 0)) ∧ Below w.heap.size w H) ⟨ten_sets HB.out.r _ _ _ _ _ _ _ _ _ _, ?_⟩ ?_
  · have hwR : w.heap.size ≤ R := by have := HB.out.hr; omega
    repeat (refine bSet ?_ (by exact hwR) _)
    exact HB.out.b
  clear r0 r1 r2 r3 r4 r5 r6 r7 r8 r9 rz F0 F1 F2 F3 F4 F5 F6 F7 F8 F9
  rintro H ⟨j1, j3⟩
  obtain ⟨r0, r1, r2, r3, r4, r5, r6, r7, r8, r9, rz⟩ := ten_cell j1
  refine bodyPost_ret (v := .tuple #[.agg #[.int .i64 0, .int .i64 0, .int .i64 0, .bool false, .string ⟨#[]⟩, .slice none 0 0, .slice none 0 0, .slice none 0 0, .slice none 0 0, .slice none 0 0], .int .i64 12]) (by simp [results, Tryd.results21, go_sem, r0, r1, r2, r3, r4, r5, r6, r7, r8, r9]) rfl ?_
  exact ⟨zeroN, rfl, rfl, zeroN_inS _ _, j3⟩
set_option maxHeartbeats 2000000 in
theorem Selected_range (w : World) (T : Option Addr) (N Nc : Nat) (zs : List Int) (n : NodeV) (a h : Int) (hT : Tabs w) (hi : n.In w) (hm : n.Small) (hz : Sl (· < w.heap.size) w 1 T N (zs.map (Value.int .i64))) (hN : N ≤ 9223372036854775807) (h0 : nodeFault zs n = 0) (hrd : n.rd = true) (hmk : ¬ markOk (runesI n.t) (a, h)) :
    Calls Tryd.prog 21 #[.slice T N Nc, n.val, markV (a, h)] w (RetTurn0 w zeroN.d 2) := by
  obtain ⟨me, ep, up, rd, t, sA, sc, S, uA, uc, U, mA, mc, M⟩ := n
  dsimp only at hrd hmk
  subst hrd
  have HMK : Hid (∀ W, Calls Tryd.prog 38 #[.string t, .agg #[.int .i64 a, .int .i64 h]] W fun r w' => r = .returned (.bool false) ∧ Below W.heap.size W w') := Lib.hid (fun W => (markMay_c W t (a, h) hm.text).mono fun r w' ⟨⟨b, e, hb⟩, k⟩ => ⟨by rw [e, Bool.eq_false_iff.2 (fun q => hmk (hb.1 q))], k⟩)
  clear hmk
  have H1 := Lib.hid (fun W hT (hi : NodeV.In W (⟨me, ep, up, true, t, sA, sc, S, uA, uc, U, mA, mc, M⟩ : NodeV)) hz => NodeFault_c W T N Nc zs (⟨me, ep, up, true, t, sA, sc, S, uA, uc, U, mA, mc, M⟩ : NodeV) hT hi hm hz hN)
  rw [h0] at H1
  have HT := Lib.hid hT
  have HZ := Lib.hid hz
  have HI := Lib.hid hi
  clear hT hz hi hm h0
  have HA := Lib.hid (SelAt.new w #[.int .i64 me, .int .i64 ep, .int .i64 up, .bool true, .string t, .slice sA S.length sc, .slice uA U.length uc, .slice mA M.length mc] a h)
  obtain ⟨WA, hWA⟩ : ∃ WA, WA = (((w.alloc (.cells #[.int .i64 me, .int .i64 ep, .int .i64 up, .bool true, .string t, .slice sA S.length sc, .slice uA U.length uc, .slice mA M.length mc] 28)).alloc (.cells #[.int .i64 a, .int .i64 h] 52)).alloc (.cells #[.int .i64 0, .int .i64 0, .int .i64 0, .bool false, .string ⟨#[]⟩, .slice none 0 0, .slice none 0 0, .slice none 0 0, .slice none 0 0, .slice none 0 0] 35)) := ⟨_, rfl⟩
  rw [← hWA] at HA
  have HW := Lib.hid hWA.symm
  obtain ⟨R, hR⟩ : ∃ R, R = w.heap.size + 1 + 1 := ⟨_, rfl⟩
  rw [← hR] at HA
  have HRE := Lib.hid hR.symm
  clear hWA hR
  go_enter Tryd.func21, Tryd.ntmps21
  go_wp2_with fail
  rw [HW.out, HRE.out]
  refine (H1.out _ (HT.out.later HA.out.b) (HI.out.later HA.out.b) (Sl.later HZ.out HA.out.b)).mono ?_
  rintro r w1 ⟨rfl, hb1⟩
  have HB := Lib.hid (HA.out.later hb1)
  obtain ⟨n0, n1, n2, n3, n4, n5, n6, n7, nz⟩ := eight_cell HB.out.nd
  clear hb1
  obtain ⟨k0, k1, _, _, kz⟩ := two_cell HB.out.mc
  go_wp2_with fail
  refine (HMK.out _).mono ?_
  rintro r w2 ⟨rfl, hb2⟩
  have HB := Lib.hid (HB.out.later hb2)
  clear hb2 n0 n1 n2 n3 n4 n5 n6 n7 nz k0 k1 kz
  obtain ⟨r0, r1, r2, r3, r4, r5, r6, r7, r8, r9, rz⟩ := ten_cell HB.out.r
  have F0 := tenF HB.out.r 0
  have F1 := tenF HB.out.r 1
  have F2 := tenF HB.out.r 2
  have F3 := tenF HB.out.r 3
  have F4 := tenF HB.out.r 4
  have F5 := tenF HB.out.r 5
  have F6 := tenF HB.out.r 6
  have F7 := tenF HB.out.r 7
  have F8 := tenF HB.out.r 8
  have F9 := tenF HB.out.r 9
  go_wp2_with fail
  refine post_hide (fun H => H.heap[R]? = some (.cells #[.int .i64 0, .int .i64 0, .int .i64 0, .bool false, .string ⟨#[]⟩, .slice none 0 0, .slice none 0 0, .slice none 0 0, .slice none 0 0, .slice none 0 0] 35 (0, 0)) ∧ Below w.heap.size w H) ⟨ten_sets HB.out.r _ _ _ _ _ _ _ _ _ _, ?_⟩ ?_
  · have hwR : w.heap.size ≤ R := by have := HB.out.hr; omega
    repeat (refine bSet ?_ (by exact hwR) _)
    exact HB.out.b
  clear r0 r1 r2 r3 r4 r5 r6 r7 r8 r9 rz F0 F1 F2 F3 F4 F5 F6 F7 F8 F9
  rintro H ⟨j1, j3⟩
  obtain ⟨r0, r1, r2, r3, r4, r5, r6, r7, r8, r9, rz⟩ := ten_cell j1
  refine bodyPost_ret (v := .tuple #[.agg #[.int .i64 0, .int .i64 0, .int .i64 0, .bool false, .string ⟨#[]⟩, .slice none 0 0, .slice none 0 0, .slice none 0 0, .slice none 0 0, .slice none 0 0], .int .i64 2]) (by simp [results, Tryd.results21, go_sem, r0, r1, r2, r3, r4, r5, r6, r7, r8, r9]) rfl ?_
  exact ⟨zeroN, rfl, rfl, zeroN_inS _ _, j3⟩
end Go.Proofs.YtbmdepbmejnlkaaDoor
namespace Go.Proofs.YtbmdepbmejnlkaaDoor
open Go.ChangeShapes Go.WideShapes Go.ChangeAt Go.RowKit
set_option maxRecDepth 100000
open Classical in
/-- The error that Select answers. -/
noncomputable def selE (zs : List Int) (n : NodeV) (m : Int × Int) : Int :=
  if nodeFault zs n = 0 then (if n.rd = true then (if markOk (runesI n.t) m then 0 else 2) else 12) else nodeFault zs n
open Classical in
/-- The node that Select answers. -/
noncomputable def selD (zs : List Int) (n : NodeV) (m : Int × Int) : NodeD :=
  if nodeFault zs n = 0 then (if n.rd = true then (if markOk (runesI n.t) m then ⟨n.me, n.ep, n.up, n.rd, n.t, n.S.map SideV.d, n.U.map OpV.ps, [m]⟩ else zeroN.d) else zeroN.d) else zeroN.d
theorem Select_c (w : World) (T : Option Addr) (N Nc : Nat) (zs : List Int) (n : NodeV) (a h : Int) (hT : Tabs w) (hi : n.In w) (hm : n.Small) (hz : Sl (· < w.heap.size) w 1 T N (zs.map (Value.int .i64))) (hN : N ≤ 9223372036854775807) :
    Calls Tryd.prog 19 #[.slice T N Nc, n.val, markV (a, h)] w (RetTurn0 w (selD zs n (a, h)) (selE zs n (a, h))) := by
  by_cases h0 : nodeFault zs n = 0
  · cases hrd : n.rd
    · have e1 : selD zs n (a, h) = zeroN.d := by simp only [selD, h0, hrd]; simp
      have e2 : selE zs n (a, h) = 12 := by simp only [selE, h0, hrd]; simp
      rw [e1, e2]
      exact Select_away w T N Nc zs n a h hT hi hm hz hN h0 hrd
    · by_cases hk : markOk (runesI n.t) (a, h)
      · have e1 : selD zs n (a, h) = ⟨n.me, n.ep, n.up, n.rd, n.t, n.S.map SideV.d, n.U.map OpV.ps, [(a, h)]⟩ := by simp only [selD, h0, hrd, hk]; simp
        have e2 : selE zs n (a, h) = 0 := by simp only [selE, h0, hrd, hk]; simp
        rw [e1, e2]
        exact Select_ok w T N Nc zs n a h hT hi hm hz hN h0 hrd hk
      · have e1 : selD zs n (a, h) = zeroN.d := by simp only [selD, h0, hrd, hk]; simp
        have e2 : selE zs n (a, h) = 2 := by simp only [selE, h0, hrd, hk]; simp
        rw [e1, e2]
        exact Select_range w T N Nc zs n a h hT hi hm hz hN h0 hrd hk
  · have e1 : selD zs n (a, h) = zeroN.d := by simp only [selD, h0]; simp
    have e2 : selE zs n (a, h) = nodeFault zs n := by simp only [selE, h0]; simp
    rw [e1, e2]
    exact Select_fault w T N Nc zs n a h hT hi hm hz hN _ rfl (by simpa using h0)
theorem Selected_c (w : World) (T : Option Addr) (N Nc : Nat) (zs : List Int) (n : NodeV) (a h : Int) (hT : Tabs w) (hi : n.In w) (hm : n.Small) (hz : Sl (· < w.heap.size) w 1 T N (zs.map (Value.int .i64))) (hN : N ≤ 9223372036854775807) :
    Calls Tryd.prog 21 #[.slice T N Nc, n.val, markV (a, h)] w (RetTurn0 w (selD zs n (a, h)) (selE zs n (a, h))) := by
  by_cases h0 : nodeFault zs n = 0
  · cases hrd : n.rd
    · have e1 : selD zs n (a, h) = zeroN.d := by simp only [selD, h0, hrd]; simp
      have e2 : selE zs n (a, h) = 12 := by simp only [selE, h0, hrd]; simp
      rw [e1, e2]
      exact Selected_away w T N Nc zs n a h hT hi hm hz hN h0 hrd
    · by_cases hk : markOk (runesI n.t) (a, h)
      · have e1 : selD zs n (a, h) = ⟨n.me, n.ep, n.up, n.rd, n.t, n.S.map SideV.d, n.U.map OpV.ps, [(a, h)]⟩ := by simp only [selD, h0, hrd, hk]; simp
        have e2 : selE zs n (a, h) = 0 := by simp only [selE, h0, hrd, hk]; simp
        rw [e1, e2]
        exact Selected_ok w T N Nc zs n a h hT hi hm hz hN h0 hrd hk
      · have e1 : selD zs n (a, h) = zeroN.d := by simp only [selD, h0, hrd, hk]; simp
        have e2 : selE zs n (a, h) = 2 := by simp only [selE, h0, hrd, hk]; simp
        rw [e1, e2]
        exact Selected_range w T N Nc zs n a h hT hi hm hz hN h0 hrd hk
  · have e1 : selD zs n (a, h) = zeroN.d := by simp only [selD, h0]; simp
    have e2 : selE zs n (a, h) = nodeFault zs n := by simp only [selE, h0]; simp
    rw [e1, e2]
    exact Selected_fault w T N Nc zs n a h hT hi hm hz hN _ rfl (by simpa using h0)
theorem selE_d {zs : List Int} {n n' : NodeV} (hd : n'.d = n.d) (m : Int × Int) : selE zs n' m = selE zs n m := by
  have e := nodeFault_d (zs := zs) hd
  simp only [NodeV.d, NodeD.mk.injEq] at hd
  unfold selE
  rw [e, hd.2.2.2.1, hd.2.2.2.2.1]
theorem selD_d {zs : List Int} {n n' : NodeV} (hd : n'.d = n.d) (m : Int × Int) : selD zs n' m = selD zs n m := by
  have e := nodeFault_d (zs := zs) hd
  simp only [NodeV.d, NodeD.mk.injEq] at hd
  unfold selD
  rw [e, hd.1, hd.2.1, hd.2.2.1, hd.2.2.2.1, hd.2.2.2.2.1, hd.2.2.2.2.2.1, hd.2.2.2.2.2.2.1]
theorem zeroN_small : zeroN.Small := ⟨Nat.zero_le _, by simp [zeroN], (by intro x hx; cases hx), by simp [zeroN], (by intro x hx; cases hx), by simp [zeroN]⟩
theorem sel_mid {zs : List Int} {n n' : NodeV} {m : Int × Int} (hm : n.Small) (hd : n'.d = selD zs n m) : n'.Mid := by
  unfold selD at hd
  split at hd
  · split at hd
    · split at hd
      · have hq : (⟨n.me, n.ep, n.up, n.rd, n.t, n.sA, n.sc, n.S, n.uA, n.uc, n.U, none, 0, [m]⟩ : NodeV).Small := ⟨hm.text, hm.sl, hm.sides, hm.ul, hm.undo, by simp⟩
        exact (NodeV.Small.of_d (n := ⟨n.me, n.ep, n.up, n.rd, n.t, n.sA, n.sc, n.S, n.uA, n.uc, n.U, none, 0, [m]⟩) hd hq).mid
      · exact (NodeV.Small.of_d hd zeroN_small).mid
    · exact (NodeV.Small.of_d hd zeroN_small).mid
  · exact (NodeV.Small.of_d hd zeroN_small).mid
end Go.Proofs.YtbmdepbmejnlkaaDoor
