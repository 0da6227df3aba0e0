/- A part of the proof of NodeUndoes. -/
import Derived.Test.YtacacoklddogmaaGreatDoorKBP
import Derived.Test.YtacacoklddogmaaGreatDoorKBO
namespace Go.Proofs.YtacacoklddogmaaGreatDoor
set_option maxHeartbeats 4000000
open Go.ChangeShapes Go.WideShapes Go.ChangeAt Go.RowKit
set_option maxRecDepth 100000
theorem ro_ (w : World) (l : LinkV) (hi : l.In w) (hm : l.Small) : Calls Tryz.prog 18 #[l.val] w (RetOwn w l.d) := by
 obtain ⟨e, n, sA, sc, s, qA, qc, q, h⟩ := l
 have H1 := h_ (fun W hs => co_ W sA sc s hs hm.sl (fun f hf => (hm.s f hf).op.len))
 have H2 := h_ (fun W hs => co_ W qA qc q hs hm.ql (fun f hf => (hm.q f hf).op.len))
 have HI := h_ hi
 (try dsimp only at *)
 clear hi hm
 go_enter Tryz.func18, Tryz.ntmps18
 go_wp2_with (refine r_ ?_)
 refine ⟨?_⟩
 go_region_held3 (fun w' => w'.cell? ⟨w.heap.size, 0, none⟩ = some (.int .i64 e) ∧ w'.cell? ⟨w.heap.size, 1, none⟩ = some (.int .i64 n) ∧ w'.cell? ⟨w.heap.size, 2, none⟩ = some (.slice sA s.length sc) ∧ w'.cell? ⟨w.heap.size, 3, none⟩ = some (.slice qA q.length qc) ∧ w'.cell? ⟨w.heap.size, 4, none⟩ = some (.int .i64 h))
  (go_keep)
  ((first
    | (go_at_call 42; (with_reducible refine (H1.out _ ?_).mono ?_); exact HI.out.s.later bz_; rintro r w2 ⟨A2, c2, L2, rfl, hd2, ho2, hb2⟩; obtain ⟨⟨d2, os2⟩, rfl⟩ := a_ hb2)
    | (go_at_call 42; (with_reducible refine (H2.out _ ?_).mono ?_); exact HI.out.q.later bz_; rintro r w3 ⟨A3, c3, L3, rfl, hd3, ho3, hb3⟩; obtain ⟨⟨d3, os3⟩, rfl⟩ := a_ hb3)))
 all_goals (
  go_wp2_with fail
  refine bodyPost_ret (v := (⟨e, n, A2, c2, L2, A3, c3, L3, h⟩ : LinkV).val) (by simp [results, Tryz.results18, go_sem]) rfl ?_
  refine ⟨⟨e, n, A2, c2, L2, A3, c3, L3, h⟩, _, rfl, by simp only [LinkV.d, hd2, hd3], ⟨?_, ?_⟩, FramesTo.kept ((FramesTo.of ho2)) ?_ ?_ |>.mono ?_, RowOwn.kept ho3 ?_ fun b hb hl => ?_, bz_⟩
  · simp [Go.Sort.grow]
  · simp [Go.Sort.grow]
  · simp [Go.Sort.grow]
  · intro b hb hl
    exact ((below_regrown _ d3 os3).block b (by simpa [Go.Sort.grow] using hl)).trans (de_ _ _ d2 os2 (by simp) (by simpa using hb))
  · simp
  · simp [Go.Sort.grow]
  · exact de_ _ _ d3 os3 (by simp [Go.Sort.grow]) hb)
section
variable (w : World) (l : LinkV) (f : FrameV) (hT : Tabs w) (hi : l.In w) (hm : l.Small) (hf : OpIn (· < w.heap.size) w f.o.A f.o.ps) (hfm : f.Small)
include hT hi hm
theorem tm_ (hk : ¬ linkMay l) : Calls Tryz.prog 81 #[l.val, frameV f.k f.h f.e f.o.A f.o.ps.length f.o.c f.s] w (RetSend w zeroL.d [] 9) := by
 have HC := h_ (fun W hT hi => dt_ W l hT hi hm)
 rw [decide_eq_false hk] at HC
 have HI := h_ hi
 have HT := h_ hT
 clear hi hT hm
 obtain ⟨e, n, sA, sc, s, qA, qc, q, h⟩ := l
 obtain ⟨fk, fh, fe, ⟨fA, fc, fp⟩, fs⟩ := f
 go_enter Tryz.func81, Tryz.ntmps81
 go_wp2_with fail
 refine (HC.out _ (HT.out.later bz_) (HI.out.later bz_)).mono ?_
 rintro r w1 ⟨rfl, hb1⟩
 obtain ⟨⟨d1, os1⟩, rfl⟩ := a_ hb1
 go_wp2_with fail
 refine bodyPost_ret (v := .tuple #[zeroL.val, .slice none 0 0, .int .i64 9]) (by simp [results, Tryz.results81, go_sem]) rfl ?_
 exact ⟨zeroL, none, 0, [], rfl, rfl, rfl, dy_ _, PacketsIn.nil _, bz_⟩
theorem ux_ (hk : linkMay l) (h0 : l.e = 0) : Calls Tryz.prog 81 #[l.val, frameV f.k f.h f.e f.o.A f.o.ps.length f.o.c f.s] w (RetSend w zeroL.d [] 12) := by
 have HC := h_ (fun W hT hi => dt_ W l hT hi hm)
 rw [decide_eq_true hk] at HC
 have HI := h_ hi
 have HT := h_ hT
 clear hi hT hm hk
 obtain ⟨e, n, sA, sc, s, qA, qc, q, h⟩ := l
 obtain ⟨fk, fh, fe, ⟨fA, fc, fp⟩, fs⟩ := f
 dsimp only at h0
 subst h0
 go_enter Tryz.func81, Tryz.ntmps81
 go_wp2_with fail
 refine (HC.out _ (HT.out.later bz_) (HI.out.later bz_)).mono ?_
 rintro r w1 ⟨rfl, hb1⟩
 obtain ⟨⟨d1, os1⟩, rfl⟩ := a_ hb1
 go_wp2_with fail
 refine bodyPost_ret (v := .tuple #[zeroL.val, .slice none 0 0, .int .i64 12]) (by simp [results, Tryz.results81, go_sem]) rfl ?_
 exact ⟨zeroL, none, 0, [], rfl, rfl, rfl, dy_ _, PacketsIn.nil _, bz_⟩
include hf hfm
theorem tl_ (hk : linkMay l) (h0 : l.e ≠ 0) (er : Int) (he : frameFault f.d = er) (h1 : er ≠ 0) : Calls Tryz.prog 81 #[l.val, frameV f.k f.h f.e f.o.A f.o.ps.length f.o.c f.s] w (RetSend w zeroL.d [] er) := by
 have HC := h_ (fun W hT hi => dt_ W l hT hi hm)
 rw [decide_eq_true hk] at HC
 have HF := h_ (fun W hT hs => ea_ W f.k f.h f.e f.o.A f.o.c f.o.ps f.s hT hs hfm.op.len hfm.op.text hfm.text)
 rw [show frameFault ⟨f.k, f.h, f.e, f.o.ps, f.s⟩ = er from he] at HF
 have HI := h_ hi
 have HT := h_ hT
 have HO := h_ hf
 have e0 : (l.e == 0) = false := by simpa using h0
 have e1 : (er != 0) = true := by simpa using h1
 have e2 : (er == 0) = false := by simpa using h1
 clear hi hT hm hk hf hfm he h0 h1
 obtain ⟨e, n, sA, sc, s, qA, qc, q, h⟩ := l
 obtain ⟨fk, fh, fe, ⟨fA, fc, fp⟩, fs⟩ := f
 dsimp only at *
 go_enter Tryz.func81, Tryz.ntmps81
 go_wp2_with fail
 refine (HC.out _ (HT.out.later bz_) (HI.out.later bz_)).mono ?_
 rintro r w1 ⟨rfl, hb1⟩
 obtain ⟨⟨d1, os1⟩, rfl⟩ := a_ hb1
 go_wp2_with fail
 refine (HF.out _ (HT.out.later bz_) (Sl.later HO.out bz_)).mono ?_
 rintro r w2 ⟨rfl, hb2⟩
 obtain ⟨⟨d2, os2⟩, rfl⟩ := a_ hb2
 go_wp2_with fail
 refine bodyPost_ret (v := .tuple #[zeroL.val, .slice none 0 0, .int .i64 er]) (by simp [results, Tryz.results81, go_sem]) rfl ?_
 exact ⟨zeroL, none, 0, [], rfl, rfl, rfl, dy_ _, PacketsIn.nil _, bz_⟩
theorem uy_ (hk : linkMay l) (h0 : l.e ≠ 0) (he : frameFault f.d = 0) (h1 : l.n = 1048576) : Calls Tryz.prog 81 #[l.val, frameV f.k f.h f.e f.o.A f.o.ps.length f.o.c f.s] w (RetSend w zeroL.d [] 8) := by
 have HC := h_ (fun W hT hi => dt_ W l hT hi hm)
 rw [decide_eq_true hk] at HC
 have HF := h_ (fun W hT hs => ea_ W f.k f.h f.e f.o.A f.o.c f.o.ps f.s hT hs hfm.op.len hfm.op.text hfm.text)
 rw [show frameFault ⟨f.k, f.h, f.e, f.o.ps, f.s⟩ = 0 from he] at HF
 have HI := h_ hi
 have HT := h_ hT
 have HO := h_ hf
 have e0 : (l.e == 0) = false := by simpa using h0
 clear hi hT hm hk hf hfm he h0
 obtain ⟨e, n, sA, sc, s, qA, qc, q, h⟩ := l
 obtain ⟨fk, fh, fe, ⟨fA, fc, fp⟩, fs⟩ := f
 dsimp only at *
 subst h1
 go_enter Tryz.func81, Tryz.ntmps81
 go_wp2_with fail
 refine (HC.out _ (HT.out.later bz_) (HI.out.later bz_)).mono ?_
 rintro r w1 ⟨rfl, hb1⟩
 obtain ⟨⟨d1, os1⟩, rfl⟩ := a_ hb1
 go_wp2_with fail
 refine (HF.out _ (HT.out.later bz_) (Sl.later HO.out bz_)).mono ?_
 rintro r w2 ⟨rfl, hb2⟩
 obtain ⟨⟨d2, os2⟩, rfl⟩ := a_ hb2
 go_wp2_with fail
 refine bodyPost_ret (v := .tuple #[zeroL.val, .slice none 0 0, .int .i64 8]) (by simp [results, Tryz.results81, go_sem]) rfl ?_
 exact ⟨zeroL, none, 0, [], rfl, rfl, rfl, dy_ _, PacketsIn.nil _, bz_⟩
end
theorem xq_ (w : World) (l : LinkV) (f : FrameV) (hT : Tabs w) (hi : l.In w) (hm : l.Small) (hf : OpIn (· < w.heap.size) w f.o.A f.o.ps) (hfm : f.Small) (hk : linkMay l) (h0 : l.e ≠ 0) (he : frameFault f.d = 0) (h1 : l.n ≠ 1048576) :
 Calls Tryz.prog 81 #[l.val, frameV f.k f.h f.e f.o.A f.o.ps.length f.o.c f.s] w (RetSendF w (fillL (waitL l.d f.d)) (fillP (waitL l.d f.d)) 0) := by
 obtain ⟨j0, hj0, hy0, hy1, hy2⟩ := info_parts infoFrame
 have HC := h_ (fun W hT hi => dt_ W l hT hi hm)
 rw [decide_eq_true hk] at HC
 have HF := h_ (fun W hT hs => ea_ W f.k f.h f.e f.o.A f.o.c f.o.ps f.s hT hs hfm.op.len hfm.op.text hfm.text)
 rw [show frameFault ⟨f.k, f.h, f.e, f.o.ps, f.s⟩ = 0 from he] at HF
 have HOW := h_ (fun W hi => ro_ W l hi hm)
 have HI := h_ hi
 have HT := h_ hT
 have HO := h_ hf
 have HM := h_ hm
 have HK := h_ hk
 have e0 : (l.e == 0) = false := by simpa using h0
 have e1 : decide (1048576 ≤ l.n) = false := by have := hk.1.2.1.2; simp; omega
 have hsm := hfm.op.len
 clear hi hT hm hk hf hfm he h0 h1
 obtain ⟨e, n, sA, sc, s, qA, qc, q, h⟩ := l
 obtain ⟨fk, fh, fe, ⟨fA, fc, fp⟩, fs⟩ := f
 obtain ⟨D, hD⟩ : ∃ D, D = waitL (LinkV.d ⟨e, n, sA, sc, s, qA, qc, q, h⟩) (FrameV.d ⟨fk, fh, fe, ⟨fA, fc, fp⟩, fs⟩) := ⟨_, rfl⟩
 rw [← hD]
 have HDD := h_ hD
 clear hD
 dsimp only at *
 have HCF := h_ (fun W hs => en_ W fk fh fe fA fc fp fs hs hsm)
 obtain ⟨W1, hW1⟩ : ∃ W1, W1 = w.alloc (.cells #[.int .i64 e, .int .i64 n, .slice sA s.length sc, .slice qA q.length qc, .int .i64 h] 58) := ⟨_, rfl⟩
 obtain ⟨W2, hW2⟩ : ∃ W2, W2 = W1.alloc (.cells #[.int .i64 fk, .int .i64 fh, .int .i64 fe, .slice fA fp.length fc, .string fs] 46) := ⟨_, rfl⟩
 obtain ⟨WA, hWA⟩ : ∃ WA, WA = W2.alloc (.cells #[.int .i64 0, .int .i64 0, .slice none 0 0, .slice none 0 0, .int .i64 0] 58) := ⟨_, rfl⟩
 have g1 : W1.heap.size = w.heap.size + 1 := by rw [hW1]; simp
 have g2 : W2.heap.size = W1.heap.size + 1 := by rw [hW2]; simp
 have g3 : WA.heap.size = W2.heap.size + 1 := by rw [hWA]; simp
 have k1 : Below w.heap.size w W1 := by rw [hW1]; exact bA_
 have k2 : Below W1.heap.size W1 W2 := by rw [hW2]; exact bA_
 have k3 : Below W2.heap.size W2 WA := by rw [hWA]; exact bA_
 have HP0 := h_ (show LinkAt WA w.heap.size ⟨e, n, sA, sc, s, qA, qc, q, h⟩ from (k3.block _ (by omega)).trans ((k2.block _ (by omega)).trans (by rw [hW1]; exact heap_alloc_new _ _)))
 have HF0 := h_ (show FrameAt WA W1.heap.size fk fh fe fA fp.length fc fs from (k3.block _ (by omega)).trans (by rw [hW2]; exact heap_alloc_new _ _))
 have HR0 := h_ (show LinkAt WA W2.heap.size zeroL by rw [hWA]; exact heap_alloc_new _ _)
 have HBA := h_ (bThen k1 (bThen k2 k3))
 have HW := h_ (show ((w.alloc (.cells #[.int .i64 e, .int .i64 n, .slice sA s.length sc, .slice qA q.length qc, .int .i64 h] 58)).alloc (.cells #[.int .i64 fk, .int .i64 fh, .int .i64 fe, .slice fA fp.length fc, .string fs] 46)).alloc (.cells #[.int .i64 0, .int .i64 0, .slice none 0 0, .slice none 0 0, .int .i64 0] 58) = WA by rw [hWA, hW2, hW1])
 obtain ⟨F, hF⟩ : ∃ F, F = W1.heap.size := ⟨_, rfl⟩
 obtain ⟨R, hR⟩ : ∃ R, R = W2.heap.size := ⟨_, rfl⟩
 have HE1 := h_ (show w.heap.size + 1 + 1 = R by omega)
 have HE2 := h_ (show w.heap.size + 1 = F by omega)
 have hP : w.heap.size < F ∧ F < R ∧ R < WA.heap.size := by omega
 rw [← hF] at HF0
 rw [← hR] at HR0
 clear hF hR k1 k2 k3 g1 g2 g3 hWA hW2 hW1
 go_enter Tryz.func81, Tryz.ntmps81
 go_wp2_with fail
 rw [HW.out, HE1.out, HE2.out]
 refine (HC.out _ (HT.out.later HBA.out) (HI.out.later HBA.out)).mono ?_
 rintro r w1 ⟨rfl, hb1⟩
 have hz1 := hb1.size
 have HP1 := h_ (show LinkAt w1 w.heap.size ⟨e, n, sA, sc, s, qA, qc, q, h⟩ from (hb1.block _ (by omega)).trans HP0.out)
 have HF1 := h_ (show FrameAt w1 F fk fh fe fA fp.length fc fs from (hb1.block _ (by omega)).trans HF0.out)
 have HR1 := h_ (show LinkAt w1 R zeroL from (hb1.block _ (by omega)).trans HR0.out)
 have HB1 := h_ (bThen HBA.out hb1)
 obtain ⟨p0, p1, p2, p3, p4, _, _, _, _, _, _⟩ := i_ HP1.out
 obtain ⟨q0, q1, q2, q3, q4, _, _, _, _, _, _⟩ := i_ HF1.out
 clear hb1
 go_wp2_with fail
 refine (HF.out _ (HT.out.later HB1.out) (Sl.later HO.out HB1.out)).mono ?_
 rintro r w2 ⟨rfl, hb2⟩
 have hz2 := hb2.size
 have HP2 := h_ (show LinkAt w2 w.heap.size ⟨e, n, sA, sc, s, qA, qc, q, h⟩ from (hb2.block _ (by omega)).trans HP1.out)
 have HF2 := h_ (show FrameAt w2 F fk fh fe fA fp.length fc fs from (hb2.block _ (by omega)).trans HF1.out)
 have HR2 := h_ (show LinkAt w2 R zeroL from (hb2.block _ (by omega)).trans HR1.out)
 have HB2 := h_ (bThen HB1.out hb2)
 clear hb2 p0 p1 p2 p3 p4 q0 q1 q2 q3 q4
 obtain ⟨p0, p1, p2, p3, p4, _, _, _, _, _, _⟩ := i_ HP2.out
 obtain ⟨q0, q1, q2, q3, q4, _, _, _, _, _, _⟩ := i_ HF2.out
 go_wp2_with fail
 refine (HOW.out _ (HI.out.later HB2.out)).mono ?_
 rintro r w3 ⟨⟨e3, n3, sA3, sc3, s3, qA3, qc3, q3', h3⟩, mid, rfl, hd3, hmid, hS3, hQ3, hb3⟩
 have hz3 := hb3.size
 obtain ⟨W4, hW4⟩ : ∃ W4, W4 = w3.alloc (.cells #[.int .i64 e3, .int .i64 n3, .slice sA3 s3.length sc3, .slice qA3 q3'.length qc3, .int .i64 h3] 58) := ⟨_, rfl⟩
 have hb4 : Below w3.heap.size w3 W4 := by rw [hW4]; exact bA_
 have hz4 : W4.heap.size = w3.heap.size + 1 := by rw [hW4]; simp
 have HX4 := h_ (show LinkAt W4 w3.heap.size ⟨e3, n3, sA3, sc3, s3, qA3, qc3, q3', h3⟩ by rw [hW4]; exact heap_alloc_new _ _)
 have hb24 := bThen hb3 hb4
 have HF4 := h_ (show FrameAt W4 F fk fh fe fA fp.length fc fs from (hb24.block _ (by omega)).trans HF2.out)
 have HR4 := h_ (show LinkAt W4 R zeroL from (hb24.block _ (by omega)).trans HR2.out)
 have HB4 := h_ (bThen HB2.out hb24)
 have HB34 := h_ hb4
 have HB24 := h_ hb24
 have HS3 := h_ hS3
 have HQ3 := h_ hQ3
 have HD3 := h_ hd3
 have HMID := h_ hmid
 have HW4 := h_ hW4
 obtain ⟨X, hX⟩ : ∃ X, X = w3.heap.size := ⟨_, rfl⟩
 have HXE := h_ hX
 rw [← hX] at HX4
 have hz4' : W4.heap.size = X + 1 := by omega
 have hRX : R < X := by omega
 have hFX : F < X := by omega
 have HN3 := h_ (show (1 ≤ n3 ∧ n3 ≤ 1048576) ∧ s3.length ≤ 8 from by
  have h5 := congrArg (fun x => x.s.length) hd3
  have h6 := HK.out.2.1.1
  have h7 := congrArg LinkD.n hd3
  have h8 := HK.out.1.2.1
  simp at h5 h6 h7 h8
  omega)
 have HSM := h_ (show (∀ f ∈ s3, f.o.ps.length ≤ 1048576) ∧ ∀ f ∈ q3', f.o.ps.length ≤ 1048576 from by
  have h5 := congrArg LinkD.s hd3
  have h6 := congrArg LinkD.q hd3
  exact ⟨fun f hf => (em_ h5 HM.out.s f hf).op.len, fun f hf => (em_ h6 HM.out.q f hf).op.len⟩)
 have hql3 : q3'.length ≤ 1048576 := by
  have h5 := congrArg (fun x => x.q.length) hd3
  have h6 := HM.out.ql
  simp at h5 h6
  omega
 clear hW4 hb4 hb24 hS3 hQ3 hd3 hmid hb3 hX hz4 p0 p1 p2 p3 p4 q0 q1 q2 q3 q4
 obtain ⟨q0, q1, q2, q3, q4, _, _, _, _, _, _⟩ := i_ HF4.out
 obtain ⟨x0, x1, x2, x3, x4, y0, y1, y2, y3, y4, hxz⟩ := i_ HX4.out
 have HF3 := h_ (show FrameAt w3 F fk fh fe fA fp.length fc fs from (HB34.out.block F (by have := HXE.out; omega)).symm.trans HF4.out)
 obtain ⟨j0', j1', j2', j3', j4', _, _, _, _, _, _⟩ := i_ HF3.out
 go_wp2_with fail
 rw [← HW4.out, ← HXE.out]
 clear q0 q1 q2 q3 q4 x0 x1 x2 x3 x4 y0 y1 y2 y3 y4 hxz j0' j1' j2' j3' j4'
 refine (HCF.out _ (Sl.later HO.out HB4.out)).mono ?_
 rintro r w5 ⟨A2, c2, rfl, ho2, hb2⟩
 have HX5 := h_ ((hb2.block X (by omega)).trans HX4.out)
 have HR5 := h_ (show LinkAt w5 R zeroL from (hb2.block _ (by omega)).trans HR4.out)
 have HB45 := h_ hb2
 have HO2 := h_ ho2
 have hz5 := hb2.size
 clear ho2 hb2
 obtain ⟨x0, x1, x2, x3, x4, y0, y1, y2, y3, y4, hxz⟩ := i_ HX5.out
 go_wp2_with (refine bg_ rfl ?_)
 refine ⟨?_⟩
 have HXR := h_ (((HQ3.out.later (bThen HB34.out HB45.out)).row.alloc (.cells #[.int .i64 fk, .int .i64 fh, .int .i64 fe, .slice A2 fp.length c2, .string fs] 46)).alloc (.cells #[.int .i64 fk, .int .i64 fh, .int .i64 fe, .slice A2 fp.length c2, .string fs] 46))
 refine j_ _ rfl _ _ 56 rfl mid 46 j0 (.agg #[.int .i64 0, .int .i64 0, .int .i64 0, .slice none 0 0, .string ⟨#[]⟩]) 5 64 Tryz.underlying56 hj0 hy0 hy1 hy2 rfl (by decide) _ _ _ rfl HXR.out (fun _ => True) _ _ _ _ rfl (bl_ (by rfl) (by simp)) ?c1 ?c2 ?c3 ?c4 ?_
 case c1 => intro u hu; simp at hu; rcases hu with rfl | rfl | rfl | rfl | rfl <;> rfl
 case c2 => unfold maxLen; omega
 case c3 => omega
 case c4 => have := HMID.out; have := HXE.out; simp; omega
 intro A' c' w6 hown' hgrow hat
 obtain ⟨WQ, hWQ, hgQ, hbQ⟩ := fb_ (W4 := w5) hgrow bz_
 have hzQ := hbQ.size
 have hqX : (Value.slice qA3 q3'.length qc3).ownBlock ≠ some X := fun e1 => by have := HXE.out; have := (HQ3.out.row.lt X e1).2; omega
 have HX6 := h_ ((hgQ.block X (by omega) (fun e1 => hqX e1.symm)).trans ((hbQ.block X (by omega)).trans HX5.out))
 have hX5 := HX5.out
 rw [HXE.out] at hX5
 have hL := LinkSt.make (f := (⟨fk, fh, fe, ⟨A2, c2, fp⟩, fs⟩ : FrameV)) HS3.out HQ3.out HMID.out (bThen HB34.out (bThen HB45.out hbQ)) ((hbQ.block w3.heap.size (by have := HXE.out; omega)).trans hX5) (HO2.out.moved fun b hb => ⟨⟨by have := HXE.out; omega, by omega⟩, hbQ.block b hb.2⟩) hgQ hown' (by rw [hWQ]; exact hat)
 rw [← HXE.out] at hL
 have hR6 := (hgQ.block R (by omega) (fun e1 => by have := (HQ3.out.row.lt R e1.symm).1; have := HMID.out; omega)).trans ((hbQ.block R (by omega)).trans HR5.out)
 have hB6 := Below.grown (bThen HB4.out (bThen HB45.out hbQ)) hgQ (by omega) (fun g hg => by have := (HQ3.out.row.lt g hg).1; have := HMID.out; omega)
 have hz6 := hgQ.size
 have hll : (q3' ++ [(⟨fk, fh, fe, ⟨A2, c2, fp⟩, fs⟩ : FrameV)]).length = q3'.length + 1 := by simp
 have HD4 := h_ (show LinkV.d ⟨e3, n3, sA3, sc3, s3, A', c', q3' ++ [(⟨fk, fh, fe, ⟨A2, c2, fp⟩, fs⟩ : FrameV)], h3⟩ = D from by
  have h5 := HD3.out
  rw [HDD.out]
  simp only [LinkV.d, LinkD.mk.injEq] at h5
  obtain ⟨a1, a2, a3, a4, a5⟩ := h5
  unfold waitL
  simp only [LinkV.d, List.map_append, a1, a2, a3, a4, a5]
  rfl)
 obtain ⟨W6, hW6⟩ : ∃ W6, W6 = w6.setCell ⟨X, 3, none⟩ (.slice A' (q3'.length + 1) c') := ⟨_, rfl⟩
 rw [← hW6] at hL
 have HR6 := h_ (show LinkAt W6 R zeroL by rw [hW6]; exact (bH_ (by show R ≠ X; omega)).trans hR6)
 have HB6 := h_ (show Below w.heap.size w W6 by rw [hW6]; exact bSet hB6 (by show w.heap.size ≤ X; omega) _)
 have hz66 : X < W6.heap.size := by rw [hW6]; simp [World.setCell]; omega
 have HFL := vi_ w2.heap.size W6 ⟨e3, n3, sA3, sc3, s3, A', c', q3' ++ [(⟨fk, fh, fe, ⟨A2, c2, fp⟩, fs⟩ : FrameV)], h3⟩ hL.inS hL.qcap HN3.out.2 HN3.out.1 (by simp; omega) ⟨HSM.out.1, fun f hf => by
  rcases List.mem_append.1 hf with hf | hf
  · exact HSM.out.2 f hf
  · obtain rfl := List.mem_singleton.1 hf
    exact hsm⟩
 rw [HD4.out] at HFL
 dsimp only [LinkV.val] at HFL
 rw [hll] at HFL
 have HFL2 := h_ HFL
 have HW6 := h_ hW6
 clear HFL hL hR6 hB6 hX5 hown' hgrow hat hWQ hgQ hbQ hzQ hqX hW6 x0 x1 x2 x3 x4 y0 y1 y2 y3 y4 hxz hll
 obtain ⟨x0, x1, x2, x3, x4, y0, y1, y2, y3, y4, hxz⟩ := i_ HX6.out
 go_wp2_with fail
 rw [← HW6.out]
 refine HFL2.out.mono ?_
 rintro r w7 ⟨⟨e5, n5, sA5, sc5, s5, qA5, qc5, q5, h5⟩, A5, c5, L5, rfl, hd5, hp5, hi5, ho5, hb7⟩
 have HR7 := h_ (show LinkAt w7 R zeroL from (hb7.block _ (by omega)).trans HR6.out)
 have HB7 := h_ (bThen HB6.out hb7)
 have hz7 := hb7.size
 have HI5 := h_ hi5
 have HO5 := h_ ho5
 have HD5 := h_ hd5
 have HP5 := h_ hp5
 clear hb7 hi5 ho5 hd5 hp5 x0 x1 x2 x3 x4 y0 y1 y2 y3 y4 hxz
 obtain ⟨r0, r1, r2, r3, r4, t0, t1, t2, t3, t4, hrz⟩ := i_ HR7.out
 go_wp2_with fail
 obtain ⟨W9, hW9⟩ : ∃ W9, W9 = (((((w7.setCell ⟨R, 0, none⟩ (.int .i64 e5)).setCell ⟨R, 1, none⟩ (.int .i64 n5)).setCell ⟨R, 2, none⟩ (.slice sA5 s5.length sc5)).setCell ⟨R, 3, none⟩ (.slice qA5 q5.length qc5)).setCell ⟨R, 4, none⟩ (.int .i64 h5)) := ⟨_, rfl⟩
 rw [← hW9]
 have hO : Only R w7 W9 := by rw [hW9]; exact ((((Only.set _ _ _).trans (Only.set _ _ _)).trans (Only.set _ _ _)).trans (Only.set _ _ _)).trans (Only.set _ _ _)
 have hR9 : LinkAt W9 R ⟨e5, n5, sA5, sc5, s5, qA5, qc5, q5, h5⟩ := by
  rw [hW9]
  exact e_ 4 (.int .i64 h5) (e_ 3 (.slice qA5 q5.length qc5) (e_ 2 (.slice sA5 s5.length sc5) (e_ 1 (.int .i64 n5) (e_ 0 (.int .i64 e5) HR7.out))))
 clear hW9 r0 r1 r2 r3 r4
 have hRw2 : R < w2.heap.size := by omega
 have hww2 := HB2.out.size
 have hI9 : LinkV.InS (fun b => w.heap.size ≤ b ∧ b < W9.heap.size) W9 ⟨e5, n5, sA5, sc5, s5, qA5, qc5, q5, h5⟩ := HI5.out.moved fun b hb => ⟨⟨by have := hb.1; omega, Nat.lt_of_lt_of_le hb.2 hO.size⟩, hO.block b hb.2 (by have := hb.1; omega)⟩
 have hO9 : PksS (fun b => w.heap.size ≤ b ∧ b < W9.heap.size) W9 A5 L5 := ⟨(Sl.of_own _ HO5.out.row).moved fun b hb => ⟨⟨by have := hb.1; omega, Nat.lt_of_lt_of_le hb.2 hO.size⟩, hO.block b hb.2 (by have := hb.1; omega)⟩, fun p hp => (HO5.out.each p hp).moved fun b hb => ⟨⟨by have := hb.1.1; omega, Nat.lt_of_lt_of_le hb.1.2 hO.size⟩, hO.block b hb.1.2 (by have := hb.1.1; omega)⟩⟩
 have hB9 : Below w.heap.size w W9 := HB7.out.trans (hO.below (by omega) (by omega))
 refine n_ (fun G => LinkAt G R ⟨e5, n5, sA5, sc5, s5, qA5, qc5, q5, h5⟩ ∧ LinkV.InS (fun b => w.heap.size ≤ b ∧ b < G.heap.size) G ⟨e5, n5, sA5, sc5, s5, qA5, qc5, q5, h5⟩ ∧ PksS (fun b => w.heap.size ≤ b ∧ b < G.heap.size) G A5 L5 ∧ Below w.heap.size w G) ⟨(q_ _ _ _ (i_ hR9).2.2.2.2.2.2.2.2.2.2).trans hR9, hI9.moved fun b hb => ⟨⟨hb.1, by have := hb.2; simp; omega⟩, q_ _ _ b hb.2⟩, hO9.moved fun b hb => ⟨⟨hb.1, by have := hb.2; simp; omega⟩, q_ _ _ b hb.2⟩, bAlloc hB9 _⟩ ?_
 rintro G ⟨hRG, hIG, hOG, hBG⟩
 obtain ⟨r0, r1, r2, r3, r4, _, _, _, _, _, _⟩ := i_ hRG
 refine bodyPost_ret (v := .tuple #[(⟨e5, n5, sA5, sc5, s5, qA5, qc5, q5, h5⟩ : LinkV).val, .slice A5 L5.length c5, .int .i64 0]) (by simp [results, Tryz.results81, go_sem, r0, r1, r2, r3, r4]) rfl ?_
 exact ⟨⟨e5, n5, sA5, sc5, s5, qA5, qc5, q5, h5⟩, A5, c5, L5, rfl, HD5.out, HP5.out, hIG, hOG, hBG⟩
end Go.Proofs.YtacacoklddogmaaGreatDoor
