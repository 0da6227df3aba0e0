/- A part of the proof of NodeUndoes. -/
import Derived.Test.YtacacoklddogmaaGreatDoorKSendX
import Derived.Test.YtacacoklddogmaaGreatDoorKBS
namespace Go.Proofs.YtacacoklddogmaaGreatDoor
set_option maxHeartbeats 4000000
open Go.ChangeShapes Go.WideShapes Go.ChangeAt Go.RowKit
set_option maxRecDepth 100000
theorem yc_ (w : World) (l : LinkV) (f : FrameV) (hT : Tabs w) (hi : l.In w) (hm : l.Small) (hf : OpIn (· < w.heap.size) w f.o.A f.o.ps) (hfm : f.Small) (her : sendE l f.d ≠ 0) :
 Calls Tryz.prog 116 #[l.val, frameV f.k f.h f.e f.o.A f.o.ps.length f.o.c f.s] w (RetSend w zeroL.d [] (sendE l f.d)) := by
 by_cases c1 : linkMay l
 · by_cases c2 : l.e = 0
   · rw [show sendE l f.d = 12 by unfold sendE; rw [if_neg (by simpa using c1), if_pos c2]]
     exact ut_ w l f hT hi hm c1 c2
   · by_cases c3 : frameFault f.d = 0
     · by_cases c4 : l.n = 1048576
       · rw [show sendE l f.d = 8 by unfold sendE; rw [if_neg (by simpa using c1), if_neg c2, if_neg (by simpa using c3), if_pos c4]]
         exact uv_ w l f hT hi hm hf hfm c1 c2 c3 c4
       · exact absurd (by unfold sendE; rw [if_neg (by simpa using c1), if_neg c2, if_neg (by simpa using c3), if_neg c4]) her
     · rw [show sendE l f.d = frameFault f.d by unfold sendE; rw [if_neg (by simpa using c1), if_neg c2, if_pos c3]]
       exact ti_ w l f hT hi hm hf hfm c1 c2 _ rfl c3
 · rw [show sendE l f.d = 9 by unfold sendE; rw [if_pos c1]]
   exact tj_ w l f hT hi hm c1
theorem yp_ (w : World) (base X : Nat) (n : NodeV) (A : Option Addr) (c : Nat) (L : List PostV) (R : Value) (ex : List (Option Nat)) (s : Nat) (hs : s < n.S.length) (f : FrameV) (hT : Tabs w) (h : BusyX 71 w base X n A c L R ex) (hm : n.S[s].k.Small) (hf : OpIn (· < w.heap.size) w f.o.A f.o.ps) (hfm : f.Small)
 (her : sendE n.S[s].k f.d ≠ 0) :
 Calls Tryz.prog 77 #[.pointer (some ⟨X, 0, none⟩), .int .i64 s, frameV f.k f.h f.e f.o.A f.o.ps.length f.o.c f.s] w (R_ w (.tuple #[])) := by
 have HSE := h_ (fun W hT (hi : n.S[s].k.In W) hf => yc_ W n.S[s].k f hT hi hm hf hfm her)
 obtain ⟨g, hg⟩ : ∃ g, n.sA = some ⟨g, 0, none⟩ := by
  obtain ⟨g, cap, hv, _, _⟩ := h.srow.form (by omega)
  exact ⟨g, by injection hv⟩
 have HT := h_ hT
 have HB := h_ h
 have HO := h_ hf
 have HG := h_ hg
 obtain ⟨fk, fh, fe, ⟨fA, fc, fp⟩, fs⟩ := f
 dsimp only at *
 have her' : (sendE n.S[s].k ⟨fk, fh, fe, fp, fs⟩ == 0) = false := by simpa using her
 generalize sendE n.S[s].k _ = er at *
 clear hT h hm hf hfm her
 have HFA := h_ (show (w.alloc (.cells #[.int .i64 fk, .int .i64 fh, .int .i64 fe, .slice fA fp.length fc, .string fs] 46)).heap[w.heap.size]? = some (.cells #[.int .i64 fk, .int .i64 fh, .int .i64 fe, .slice fA fp.length fc, .string fs] 46 (0, 0)) from World.alloc_heap_new _ _)
 obtain ⟨WA, hWA⟩ : ∃ WA, WA = w.alloc (.cells #[.int .i64 fk, .int .i64 fh, .int .i64 fe, .slice fA fp.length fc, .string fs] 46) := ⟨_, rfl⟩
 rw [← hWA] at HFA
 have HBA := h_ (show Below w.heap.size w WA by rw [hWA]; exact bA_)
 have HW := h_ hWA.symm
 clear hWA
 have HK := h_ (HB.out.later HBA.out)
 obtain ⟨x0, x1, x2, x3, x4, x5, x6, x7, x8, x9, xz⟩ := f_ HK.out.blk
 rw [hg] at x5
 clear hg
 go_enter Tryz.func77, Tryz.ntmps77
 go_wp2_with fail
 rw [HW.out]
 refine (bo_ _ X).mono ?_
 rintro r w1 ⟨rfl, rfl⟩
 have hcs : ∀ j u, (SideV.cells n.S[s])[j]? = some u → WA.cell? ⟨g, s * 10 + j, none⟩ = some u := fun j u hu => by
  have hr := HK.out.srow
  rw [HG.out] at hr
  have hj : j < 10 := by
   have := (List.getElem?_eq_some_iff.1 hu).1
   rwa [SideV.cells_len] at this
  rw [hr.cellAt (s * 10 + j) (by omega), ce_ SideV.cells 10 SideV.cells_len n.S s j hs hj]
  exact hu
 have s5 : WA.cell? ⟨g, s * 10 + 5, none⟩ = some (.int .i64 n.S[s].k.e) := hcs 5 _ rfl
 have s6 : WA.cell? ⟨g, s * 10 + 6, none⟩ = some (.int .i64 n.S[s].k.n) := hcs 6 _ rfl
 have s7 : WA.cell? ⟨g, s * 10 + 7, none⟩ = some (.slice n.S[s].k.sA n.S[s].k.s.length n.S[s].k.sc) := hcs 7 _ rfl
 have s8 : WA.cell? ⟨g, s * 10 + 8, none⟩ = some (.slice n.S[s].k.qA n.S[s].k.q.length n.S[s].k.qc) := hcs 8 _ rfl
 have s9 : WA.cell? ⟨g, s * 10 + 9, none⟩ = some (.int .i64 n.S[s].k.h) := hcs 9 _ rfl
 have HLI := h_ ((HK.out.side _ (List.getElem_mem hs)).link.in_ (fun b hb => hb.1.2))
 obtain ⟨q0, q1, q2, q3, q4, _, _, _, _, _, qz⟩ := i_ HFA.out
 have hgz : g < WA.heap.size := by
  have hr := HK.out.srow
  rw [HG.out] at hr
  exact (hr.lt g rfl).2
 clear hcs
 go_wp2_with fail
 go_region_law (go_simp; go_at_call 116; (with_reducible refine (HSE.out _ ?_ ?_ ?_).mono ?_); exact (HT.out.later HBA.out).later bz_; exact HLI.out.later bz_; exact Sl.later (Sl.later HO.out HBA.out) bz_; rintro r w2 ⟨l2, A2, c2, K, rfl, hd2, hk2, hl2, hp2, hb2⟩; have HB2 : Below WA.heap.size WA w2 := bThen bz_ hb2; first | (have HX2 : w2.heap[WA.heap.size]? = some (.cells #[.int .i64 0, .int .i64 0, .slice none 0 0, .slice none 0 0, .int .i64 0] 58 (0, 0)) := (hb2.block _ (by simp)).trans (World.alloc_heap_new _ _); obtain ⟨z0, z1, z2, z3, z4, f0, f1, f2, f3, f4, xz2⟩ := i_ HX2) | skip)
 all_goals (
  first
  | (obtain ⟨B, hB⟩ : ∃ B, B = w2.heap.size := ⟨_, rfl⟩
     rw [← hB]
     have hbx : Below w2.heap.size w2 (w2.alloc (.cells #[.int .i64 l2.e, .int .i64 l2.n, .slice l2.sA l2.s.length l2.sc, .slice l2.qA l2.q.length l2.qc, .int .i64 l2.h] 58)) := bA_
     refine n_ (fun G => Below w.heap.size w G) (bThen (bThen HBA.out HB2) hbx) ?_
     clear hB)
  | (obtain ⟨B, hB⟩ : ∃ B, B = WA.heap.size := ⟨_, rfl⟩
     rw [← hB] at HX2
     rw [← hB]
     have hO : Only B w2 (((((w2.setCell ⟨B, 0, none⟩ (.int .i64 l2.e)).setCell ⟨B, 1, none⟩ (.int .i64 l2.n)).setCell ⟨B, 2, none⟩ (.slice l2.sA l2.s.length l2.sc)).setCell ⟨B, 3, none⟩ (.slice l2.qA l2.q.length l2.qc)).setCell ⟨B, 4, none⟩ (.int .i64 l2.h)) := ((((Only.set _ _ _).trans (Only.set _ _ _)).trans (Only.set _ _ _)).trans (Only.set _ _ _)).trans (Only.set _ _ _)
     have HBf := HB2.trans (hO.below (by omega) HB2.size)
     refine n_ (fun G => Below w.heap.size w G) (bThen HBA.out HBf) ?_
     clear hB))
 all_goals (
  rintro G hG
  have HG := h_ hG
  clear hG hl2 hp2 hb2 hd2 hk2 s5 s6 s7 s8 s9 x0 x1 x2 x3 x4 x5 x6 x7 x8 x9 q0 q1 q2 q3 q4 qz
  go_wp2_with fail
  exact bodyPost_end (results_none rfl _ _ _) rfl ⟨rfl, HG.out⟩)
theorem wa_ (w : World) (l : LinkV) (f : FrameV) (hT : Tabs w) (hi : l.In w) (hm : l.Small) (hf : OpIn (· < w.heap.size) w f.o.A f.o.ps) (hfm : f.Small) (her : sendE l f.d ≠ 0) :
 Calls Tryz.prog 81 #[l.val, frameV f.k f.h f.e f.o.A f.o.ps.length f.o.c f.s] w (RetSend w zeroL.d [] (sendE l f.d)) := by
 by_cases c1 : linkMay l
 · by_cases c2 : l.e = 0
   · rw [show sendE l f.d = 12 by unfold sendE; rw [if_neg (by simpa using c1), if_pos c2]]
     exact ux_ w l f hT hi hm c1 c2
   · by_cases c3 : frameFault f.d = 0
     · by_cases c4 : l.n = 1048576
       · rw [show sendE l f.d = 8 by unfold sendE; rw [if_neg (by simpa using c1), if_neg c2, if_neg (by simpa using c3), if_pos c4]]
         exact uy_ w l f hT hi hm hf hfm c1 c2 c3 c4
       · exact absurd (by unfold sendE; rw [if_neg (by simpa using c1), if_neg c2, if_neg (by simpa using c3), if_neg c4]) her
     · rw [show sendE l f.d = frameFault f.d by unfold sendE; rw [if_neg (by simpa using c1), if_neg c2, if_pos c3]]
       exact tl_ w l f hT hi hm hf hfm c1 c2 _ rfl c3
 · rw [show sendE l f.d = 9 by unfold sendE; rw [if_pos c1]]
   exact tm_ w l f hT hi hm c1
theorem tv_ (w : World) (base X : Nat) (n : NodeV) (A : Option Addr) (c : Nat) (L : List PostV) (R : Value) (ex : List (Option Nat)) (s : Nat) (hs : s < n.S.length) (f : FrameV) (hT : Tabs w) (h : BusyX 35 w base X n A c L R ex) (hm : n.S[s].k.Small) (hf : OpIn (· < w.heap.size) w f.o.A f.o.ps) (hfm : f.Small)
 (her : sendE n.S[s].k f.d ≠ 0) :
 Calls Tryz.prog 41 #[.pointer (some ⟨X, 0, none⟩), .int .i64 s, frameV f.k f.h f.e f.o.A f.o.ps.length f.o.c f.s] w (R_ w (.tuple #[])) := by
 have HSE := h_ (fun W hT (hi : n.S[s].k.In W) hf => wa_ W n.S[s].k f hT hi hm hf hfm her)
 obtain ⟨g, hg⟩ : ∃ g, n.sA = some ⟨g, 0, none⟩ := by
  obtain ⟨g, cap, hv, _, _⟩ := h.srow.form (by omega)
  exact ⟨g, by injection hv⟩
 have HT := h_ hT
 have HB := h_ h
 have HO := h_ hf
 have HG := h_ hg
 obtain ⟨fk, fh, fe, ⟨fA, fc, fp⟩, fs⟩ := f
 dsimp only at *
 have her' : (sendE n.S[s].k ⟨fk, fh, fe, fp, fs⟩ == 0) = false := by simpa using her
 generalize sendE n.S[s].k _ = er at *
 clear hT h hm hf hfm her
 have HFA := h_ (show (w.alloc (.cells #[.int .i64 fk, .int .i64 fh, .int .i64 fe, .slice fA fp.length fc, .string fs] 46)).heap[w.heap.size]? = some (.cells #[.int .i64 fk, .int .i64 fh, .int .i64 fe, .slice fA fp.length fc, .string fs] 46 (0, 0)) from World.alloc_heap_new _ _)
 obtain ⟨WA, hWA⟩ : ∃ WA, WA = w.alloc (.cells #[.int .i64 fk, .int .i64 fh, .int .i64 fe, .slice fA fp.length fc, .string fs] 46) := ⟨_, rfl⟩
 rw [← hWA] at HFA
 have HBA := h_ (show Below w.heap.size w WA by rw [hWA]; exact bA_)
 have HW := h_ hWA.symm
 clear hWA
 have HK := h_ (HB.out.later HBA.out)
 obtain ⟨x0, x1, x2, x3, x4, x5, x6, x7, x8, x9, xz⟩ := f_ HK.out.blk
 rw [hg] at x5
 clear hg
 have hcs : ∀ j u, (SideV.cells n.S[s])[j]? = some u → WA.cell? ⟨g, s * 10 + j, none⟩ = some u := fun j u hu => by
  have hr := HK.out.srow
  rw [HG.out] at hr
  have hj : j < 10 := by
   have := (List.getElem?_eq_some_iff.1 hu).1
   rwa [SideV.cells_len] at this
  rw [hr.cellAt (s * 10 + j) (by omega), ce_ SideV.cells 10 SideV.cells_len n.S s j hs hj]
  exact hu
 have s5 : WA.cell? ⟨g, s * 10 + 5, none⟩ = some (.int .i64 n.S[s].k.e) := hcs 5 _ rfl
 have s6 : WA.cell? ⟨g, s * 10 + 6, none⟩ = some (.int .i64 n.S[s].k.n) := hcs 6 _ rfl
 have s7 : WA.cell? ⟨g, s * 10 + 7, none⟩ = some (.slice n.S[s].k.sA n.S[s].k.s.length n.S[s].k.sc) := hcs 7 _ rfl
 have s8 : WA.cell? ⟨g, s * 10 + 8, none⟩ = some (.slice n.S[s].k.qA n.S[s].k.q.length n.S[s].k.qc) := hcs 8 _ rfl
 have s9 : WA.cell? ⟨g, s * 10 + 9, none⟩ = some (.int .i64 n.S[s].k.h) := hcs 9 _ rfl
 have HLI := h_ ((HK.out.side _ (List.getElem_mem hs)).link.in_ (fun b hb => hb.1.2))
 obtain ⟨q0, q1, q2, q3, q4, _, _, _, _, _, qz⟩ := i_ HFA.out
 have hgz : g < WA.heap.size := by
  have hr := HK.out.srow
  rw [HG.out] at hr
  exact (hr.lt g rfl).2
 clear hcs
 go_enter Tryz.func41, Tryz.ntmps41
 go_wp2_with fail
 rw [HW.out]
 go_region_law (go_simp; go_at_call 81; (with_reducible refine (HSE.out _ ?_ ?_ ?_).mono ?_); exact (HT.out.later HBA.out).later bz_; exact HLI.out.later bz_; exact Sl.later (Sl.later HO.out HBA.out) bz_; rintro r w2 ⟨l2, A2, c2, K, rfl, hd2, hk2, hl2, hp2, hb2⟩; have HB2 : Below WA.heap.size WA w2 := bThen bz_ hb2; first | (have HX2 : w2.heap[WA.heap.size]? = some (.cells #[.int .i64 0, .int .i64 0, .slice none 0 0, .slice none 0 0, .int .i64 0] 58 (0, 0)) := (hb2.block _ (by simp)).trans (World.alloc_heap_new _ _); obtain ⟨z0, z1, z2, z3, z4, f0, f1, f2, f3, f4, xz2⟩ := i_ HX2) | skip)
 all_goals (
  first
  | (obtain ⟨B, hB⟩ : ∃ B, B = w2.heap.size := ⟨_, rfl⟩
     rw [← hB]
     have hbx : Below w2.heap.size w2 (w2.alloc (.cells #[.int .i64 l2.e, .int .i64 l2.n, .slice l2.sA l2.s.length l2.sc, .slice l2.qA l2.q.length l2.qc, .int .i64 l2.h] 58)) := bA_
     refine n_ (fun G => Below w.heap.size w G) (bThen (bThen HBA.out HB2) hbx) ?_
     clear hB)
  | (obtain ⟨B, hB⟩ : ∃ B, B = WA.heap.size := ⟨_, rfl⟩
     rw [← hB] at HX2
     rw [← hB]
     have hO : Only B w2 (((((w2.setCell ⟨B, 0, none⟩ (.int .i64 l2.e)).setCell ⟨B, 1, none⟩ (.int .i64 l2.n)).setCell ⟨B, 2, none⟩ (.slice l2.sA l2.s.length l2.sc)).setCell ⟨B, 3, none⟩ (.slice l2.qA l2.q.length l2.qc)).setCell ⟨B, 4, none⟩ (.int .i64 l2.h)) := ((((Only.set _ _ _).trans (Only.set _ _ _)).trans (Only.set _ _ _)).trans (Only.set _ _ _)).trans (Only.set _ _ _)
     have HBf := HB2.trans (hO.below (by omega) HB2.size)
     refine n_ (fun G => Below w.heap.size w G) (bThen HBA.out HBf) ?_
     clear hB))
 all_goals (
  rintro G hG
  have HG := h_ hG
  clear hG hl2 hp2 hb2 hd2 hk2 s5 s6 s7 s8 s9 x0 x1 x2 x3 x4 x5 x6 x7 x8 x9 q0 q1 q2 q3 q4 qz
  go_wp2_with fail
  exact bodyPost_end (results_none rfl _ _ _) rfl ⟨rfl, HG.out⟩)
end Go.Proofs.YtacacoklddogmaaGreatDoor
