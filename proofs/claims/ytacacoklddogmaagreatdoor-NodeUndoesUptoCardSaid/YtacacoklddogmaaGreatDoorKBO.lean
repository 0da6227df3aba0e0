/- A part of the proof of NodeUndoes. -/
import Derived.Test.YtacacoklddogmaaGreatDoorKFD
import Derived.Test.YtacacoklddogmaaGreatDoorKEC
namespace Go.Proofs.YtacacoklddogmaaGreatDoor
set_option maxHeartbeats 4000000
open Go.ChangeShapes Go.WideShapes Go.ChangeAt Go.RowKit
set_option maxRecDepth 100000
theorem LinkSt.inS {w : World} {base X : Nat} {l : LinkV} (h : LinkSt w base X l) : l.InS (fun b => base ≤ b ∧ b < w.heap.size) w :=
 ⟨h.own.sl.moved fun _ hb => ⟨⟨(h.own.lt hb.1).1, hb.2⟩, rfl⟩, fun f hf => (h.s f hf).moved fun _ hb => ⟨hb.1, rfl⟩, h.qr.moved fun _ hb => ⟨hb.1, rfl⟩, fun f hf => (h.q f hf).moved fun _ hb => ⟨hb.1, rfl⟩⟩
theorem xp_ (w : World) (l : LinkV) (f : FrameV) (hT : Tabs w) (hi : l.In w) (hm : l.Small) (hf : OpIn (· < w.heap.size) w f.o.A f.o.ps) (hfm : f.Small) (hk : linkMay l) (h0 : l.e ≠ 0) (he : frameFault f.d = 0) (h1 : l.n ≠ 1048576) :
 Calls Tryz.prog 116 #[l.val, frameV f.k f.h f.e f.o.A f.o.ps.length f.o.c f.s] w (RetSendF w (fillL (waitL l.d f.d)) (fillP (waitL l.d f.d)) 0) := by
 obtain ⟨j0, hj0, hy0, hy1, hy2⟩ := info_parts infoFrame
 have HC := h_ (fun W hT hi => cy_ W l hT hi hm)
 rw [if_pos hk] at HC
 have HF := h_ (fun W hT hs => dz_ W f.k f.h f.e f.o.A f.o.c f.o.ps f.s hT hs hfm.op.len hfm.op.text hfm.text)
 rw [show frameFault ⟨f.k, f.h, f.e, f.o.ps, f.s⟩ = 0 from he] at HF
 have HOW := h_ (fun W hi => wb_ W l hi hm)
 have HI := h_ hi
 have HT := h_ hT
 have HO := h_ hf
 have HM := h_ hm
 have HK := h_ hk
 have e0 : (l.e == 0) = false := by simpa using h0
 have e1 : (l.n == 1048576) = false := by simpa using h1
 have hsm := hfm.op.len
 clear hi hT hm hk hf hfm he h0 h1
 obtain ⟨e, n, sA, sc, s, qA, qc, q, h⟩ := l
 obtain ⟨fk, fh, fe, ⟨fA, fc, fp⟩, fs⟩ := f
 obtain ⟨D, hD⟩ : ∃ D, D = waitL (LinkV.d ⟨e, n, sA, sc, s, qA, qc, q, h⟩) (FrameV.d ⟨fk, fh, fe, ⟨fA, fc, fp⟩, fs⟩) := ⟨_, rfl⟩
 rw [← hD]
 have HDD := h_ hD
 clear hD
 dsimp only at *
 have HCF := h_ (fun W hs => ep_ W fk fh fe fA fc fp fs hs hsm)
 obtain ⟨W1, hW1⟩ : ∃ W1, W1 = w.alloc (.cells #[.int .i64 e, .int .i64 n, .slice sA s.length sc, .slice qA q.length qc, .int .i64 h] 58) := ⟨_, rfl⟩
 obtain ⟨W2, hW2⟩ : ∃ W2, W2 = W1.alloc (.cells #[.int .i64 fk, .int .i64 fh, .int .i64 fe, .slice fA fp.length fc, .string fs] 46) := ⟨_, rfl⟩
 obtain ⟨WA, hWA⟩ : ∃ WA, WA = W2.alloc (.cells #[.int .i64 0, .int .i64 0, .slice none 0 0, .slice none 0 0, .int .i64 0] 58) := ⟨_, rfl⟩
 have g1 : W1.heap.size = w.heap.size + 1 := by rw [hW1]; simp
 have g2 : W2.heap.size = W1.heap.size + 1 := by rw [hW2]; simp
 have g3 : WA.heap.size = W2.heap.size + 1 := by rw [hWA]; simp
 have k1 : Below w.heap.size w W1 := by rw [hW1]; exact bA_
 have k2 : Below W1.heap.size W1 W2 := by rw [hW2]; exact bA_
 have k3 : Below W2.heap.size W2 WA := by rw [hWA]; exact bA_
 have HP0 := h_ (show LinkAt WA w.heap.size ⟨e, n, sA, sc, s, qA, qc, q, h⟩ from (k3.block _ (by omega)).trans ((k2.block _ (by omega)).trans (by rw [hW1]; exact heap_alloc_new _ _)))
 have HF0 := h_ (show FrameAt WA W1.heap.size fk fh fe fA fp.length fc fs from (k3.block _ (by omega)).trans (by rw [hW2]; exact heap_alloc_new _ _))
 have HR0 := h_ (show LinkAt WA W2.heap.size zeroL by rw [hWA]; exact heap_alloc_new _ _)
 have HBA := h_ (bThen k1 (bThen k2 k3))
 have HW := h_ (show ((w.alloc (.cells #[.int .i64 e, .int .i64 n, .slice sA s.length sc, .slice qA q.length qc, .int .i64 h] 58)).alloc (.cells #[.int .i64 fk, .int .i64 fh, .int .i64 fe, .slice fA fp.length fc, .string fs] 46)).alloc (.cells #[.int .i64 0, .int .i64 0, .slice none 0 0, .slice none 0 0, .int .i64 0] 58) = WA by rw [hWA, hW2, hW1])
 obtain ⟨F, hF⟩ : ∃ F, F = W1.heap.size := ⟨_, rfl⟩
 obtain ⟨R, hR⟩ : ∃ R, R = W2.heap.size := ⟨_, rfl⟩
 have HE1 := h_ (show w.heap.size + 1 + 1 = R by omega)
 have HE2 := h_ (show w.heap.size + 1 = F by omega)
 have hP : w.heap.size < F ∧ F < R ∧ R < WA.heap.size := by omega
 rw [← hF] at HF0
 rw [← hR] at HR0
 clear hF hR k1 k2 k3 g1 g2 g3 hWA hW2 hW1
 go_enter Tryz.func116, Tryz.ntmps116
 go_wp2_with fail
 rw [HW.out, HE1.out, HE2.out]
 refine (HC.out _ (HT.out.later HBA.out) (HI.out.later HBA.out)).mono ?_
 rintro r w1 ⟨rfl, hb1⟩
 have hz1 := hb1.size
 have HP1 := h_ (show LinkAt w1 w.heap.size ⟨e, n, sA, sc, s, qA, qc, q, h⟩ from (hb1.block _ (by omega)).trans HP0.out)
 have HF1 := h_ (show FrameAt w1 F fk fh fe fA fp.length fc fs from (hb1.block _ (by omega)).trans HF0.out)
 have HR1 := h_ (show LinkAt w1 R zeroL from (hb1.block _ (by omega)).trans HR0.out)
 have HB1 := h_ (bThen HBA.out hb1)
 obtain ⟨p0, p1, p2, p3, p4, _, _, _, _, _, _⟩ := i_ HP1.out
 obtain ⟨q0, q1, q2, q3, q4, _, _, _, _, _, _⟩ := i_ HF1.out
 clear hb1
 go_wp2_with fail
 refine (HF.out _ (HT.out.later HB1.out) (Sl.later HO.out HB1.out)).mono ?_
 rintro r w2 ⟨rfl, hb2⟩
 have hz2 := hb2.size
 have HP2 := h_ (show LinkAt w2 w.heap.size ⟨e, n, sA, sc, s, qA, qc, q, h⟩ from (hb2.block _ (by omega)).trans HP1.out)
 have HF2 := h_ (show FrameAt w2 F fk fh fe fA fp.length fc fs from (hb2.block _ (by omega)).trans HF1.out)
 have HR2 := h_ (show LinkAt w2 R zeroL from (hb2.block _ (by omega)).trans HR1.out)
 have HB2 := h_ (bThen HB1.out hb2)
 clear hb2 p0 p1 p2 p3 p4 q0 q1 q2 q3 q4
 obtain ⟨p0, p1, p2, p3, p4, _, _, _, _, _, _⟩ := i_ HP2.out
 obtain ⟨q0, q1, q2, q3, q4, _, _, _, _, _, _⟩ := i_ HF2.out
 go_wp2_with fail
 refine (HOW.out _ (HI.out.later HB2.out)).mono ?_
 rintro r w3 ⟨⟨e3, n3, sA3, sc3, s3, qA3, qc3, q3', h3⟩, mid, rfl, hd3, hmid, hS3, hQ3, hb3⟩
 have hz3 := hb3.size
 obtain ⟨W4, hW4⟩ : ∃ W4, W4 = w3.alloc (.cells #[.int .i64 e3, .int .i64 n3, .slice sA3 s3.length sc3, .slice qA3 q3'.length qc3, .int .i64 h3] 58) := ⟨_, rfl⟩
 have hb4 : Below w3.heap.size w3 W4 := by rw [hW4]; exact bA_
 have hz4 : W4.heap.size = w3.heap.size + 1 := by rw [hW4]; simp
 have HX4 := h_ (show LinkAt W4 w3.heap.size ⟨e3, n3, sA3, sc3, s3, qA3, qc3, q3', h3⟩ by rw [hW4]; exact heap_alloc_new _ _)
 have hb24 := bThen hb3 hb4
 have HF4 := h_ (show FrameAt W4 F fk fh fe fA fp.length fc fs from (hb24.block _ (by omega)).trans HF2.out)
 have HR4 := h_ (show LinkAt W4 R zeroL from (hb24.block _ (by omega)).trans HR2.out)
 have HB4 := h_ (bThen HB2.out hb24)
 have HB34 := h_ hb4
 have HB24 := h_ hb24
 have HS3 := h_ hS3
 have HQ3 := h_ hQ3
 have HD3 := h_ hd3
 have HMID := h_ hmid
 have HW4 := h_ hW4
 obtain ⟨X, hX⟩ : ∃ X, X = w3.heap.size := ⟨_, rfl⟩
 have HXE := h_ hX
 rw [← hX] at HX4
 have hz4' : W4.heap.size = X + 1 := by omega
 have hRX : R < X := by omega
 have hFX : F < X := by omega
 have HN3 := h_ (show (1 ≤ n3 ∧ n3 ≤ 1048576) ∧ s3.length ≤ 8 from by
  have h5 := congrArg (fun x => x.s.length) hd3
  have h6 := HK.out.2.1.1
  have h7 := congrArg LinkD.n hd3
  have h8 := HK.out.1.2.1
  simp at h5 h6 h7 h8
  omega)
 have HSM := h_ (show (∀ f ∈ s3, f.o.ps.length ≤ 1048576) ∧ ∀ f ∈ q3', f.o.ps.length ≤ 1048576 from by
  have h5 := congrArg LinkD.s hd3
  have h6 := congrArg LinkD.q hd3
  exact ⟨fun f hf => (em_ h5 HM.out.s f hf).op.len, fun f hf => (em_ h6 HM.out.q f hf).op.len⟩)
 have hql3 : q3'.length ≤ 1048576 := by
  have h5 := congrArg (fun x => x.q.length) hd3
  have h6 := HM.out.ql
  simp at h5 h6
  omega
 clear hW4 hb4 hb24 hS3 hQ3 hd3 hmid hb3 hX hz4 p0 p1 p2 p3 p4 q0 q1 q2 q3 q4
 obtain ⟨q0, q1, q2, q3, q4, _, _, _, _, _, _⟩ := i_ HF4.out
 obtain ⟨x0, x1, x2, x3, x4, y0, y1, y2, y3, y4, hxz⟩ := i_ HX4.out
 go_wp2_with (refine r_ ?_)
 refine ⟨?_⟩
 rw [← HW4.out, ← HXE.out]
 have HQX := h_ (show (Value.slice qA3 q3'.length qc3).ownBlock ≠ some X from fun e1 => by have := HXE.out; have := (HQ3.out.row.lt X e1).2; omega)
 go_region_law (first
  | (refine w_ _ rfl _ _ 56 rfl mid 46 j0 (.agg #[.int .i64 0, .int .i64 0, .int .i64 0, .slice none 0 0, .string ⟨#[]⟩]) 5 64 Tryz.underlying56 hj0 hy0 hy1 hy2 rfl (by decide) _ _ _ rfl (HQ3.out.later (bThen HB34.out bz_)).row (fun _ => True) _ _ _ _ rfl (bl_ (by rfl) (by simp)) ?_ ?_ ?_ ?_ ?_; (intro u hu; simp at hu; rcases hu with rfl | rfl | rfl | rfl | rfl <;> rfl); (unfold maxLen; omega); omega; (have := HMID.out; have := HXE.out; simp; omega); intro A' c' w5 hown' hgrow hat; obtain ⟨v0, v1, v2, v3, v4, z0, z1, z2, z3, z4, yz⟩ := i_ (show LinkAt w5 X ⟨e3, n3, sA3, sc3, s3, qA3, qc3, q3', h3⟩ from (hgrow.block X (Nat.lt_of_lt_of_le (show X < W4.heap.size by omega) (show Below W4.heap.size W4 _ from bz_).size) (fun e1 => HQX.out e1.symm)).trans (((show Below W4.heap.size W4 _ from bz_).block X (by omega)).trans HX4.out)))
  | (go_simp; go_at_call 112; refine (HCF.out _ ?_).mono ?_; exact Sl.later HO.out (bThen HB4.out bz_); rintro r w5 ⟨A2, c2, rfl, ho2, hb2⟩; obtain ⟨⟨d2, os2⟩, rfl⟩ := a_ hb2))
 all_goals (
  obtain ⟨WQ, hWQ, hgQ, hbQ⟩ := fb_ (W4 := W4) hgrow bz_
  have hf5 := (dk_ (wr := W4) (W2 := WQ) ho2 (by simp) (by rw [hWQ]; exact bz_)).moved (S' := fun b => w3.heap.size < b ∧ b < WQ.heap.size) (w' := WQ) fun b hb => ⟨⟨by have := HXE.out; omega, hb.2⟩, rfl⟩
  have hX5 := HX4.out
  rw [HXE.out] at hX5
  rw [← hWQ] at hat
  have hL := LinkSt.make (f := ⟨fk, fh, fe, ⟨A2, c2, fp⟩, fs⟩) HS3.out HQ3.out HMID.out (bThen HB34.out hbQ) ((hbQ.block w3.heap.size (by have := HXE.out; omega)).trans hX5) hf5 hgQ hown' hat
  rw [← HXE.out] at hL
  have hzQ := hbQ.size
  have hb5 := Below.grown (bThen HB4.out hbQ) hgQ (by omega) (fun g hg => by have := (HQ3.out.row.lt g hg).1; have := HMID.out; omega)
  have hR5 := (hgQ.block R (by omega) (fun e1 => by have := (HQ3.out.row.lt R e1.symm).1; have := HMID.out; omega)).trans ((hbQ.block R (by omega)).trans HR4.out)
  have hz5 := Nat.le_trans hzQ hgQ.size
  refine n_ (fun G => LinkSt G w2.heap.size X ⟨e3, n3, sA3, sc3, s3, A', c', q3' ++ [⟨fk, fh, fe, ⟨A2, c2, fp⟩, fs⟩], h3⟩ ∧ LinkAt G R zeroL ∧ Below w.heap.size w G ∧ X < G.heap.size) ⟨hL, (bH_ (by show R ≠ X; omega)).trans hR5, bSet hb5 (by show w.heap.size ≤ X; omega) _, by simp [World.setCell]; omega⟩ ?_
  clear hL hb5 hR5 hz5 hf5 hX5 hown' hgrow hat ho2 hb2 hWQ hgQ hbQ hzQ v0 v1 v2 v3 v4 z0 z1 z2 z3 z4 yz
  rintro G ⟨hLG, hRG, hBG, hzG⟩
  have HLG := h_ hLG
  have HRG := h_ hRG
  have HBG := h_ hBG
  have HD4 := h_ (show LinkV.d ⟨e3, n3, sA3, sc3, s3, A', c', q3' ++ [⟨fk, fh, fe, ⟨A2, c2, fp⟩, fs⟩], h3⟩ = D from by
   have h5 := HD3.out
   rw [HDD.out]
   simp only [LinkV.d, LinkD.mk.injEq] at h5
   obtain ⟨a1, a2, a3, a4, a5⟩ := h5
   unfold waitL
   simp only [LinkV.d, List.map_append, a1, a2, a3, a4, a5]
   rfl)
  have HFL := h_ (zs_ G w2.heap.size X ⟨e3, n3, sA3, sc3, s3, A', c', q3' ++ [⟨fk, fh, fe, ⟨A2, c2, fp⟩, fs⟩], h3⟩ hLG (by have := HXE.out; omega) HN3.out.2 HN3.out.1 (by simp; omega) ⟨HSM.out.1, fun f hf => by
   rcases List.mem_append.1 hf with hf | hf
   · exact HSM.out.2 f hf
   · obtain rfl := List.mem_singleton.1 hf
     exact hsm⟩)
  rw [HD4.out] at HFL
  clear hLG hRG hBG x0 x1 x2 x3 x4 y0 y1 y2 y3 y4 hxz q0 q1 q2 q3 q4
  go_wp2_with fail
  refine HFL.out.mono ?_
  rintro r w6 ⟨l5, A5, c5, L5, rfl, hd5, hp5, hL6, ho6, hu6, _⟩
  have HL6 := h_ hL6
  have HO6 := h_ ho6.in_
  have HR6 := h_ (show LinkAt w6 R zeroL from (hu6.block R (by omega) (by omega)).trans HRG.out)
  have HB6 := h_ (show Below w.heap.size w w6 from ⟨hu6.os.trans HBG.out.os, hu6.tape.trans HBG.out.tape, hu6.output.trans HBG.out.output, Nat.le_trans HBG.out.size hu6.size, fun k hk => (hu6.block k (by omega) (by omega)).trans (HBG.out.block k hk)⟩)
  have hz6 := hu6.size
  have HP6 := h_ (show ∀ b, G.heap.size ≤ b → R ≠ b from fun b hb => by omega)
  have HO6' := h_ ho6
  clear hL6 ho6 hu6
  obtain ⟨e5, n5, sA5, sc5, s5, qA5, qc5, q5, h5⟩ := l5
  obtain ⟨x0, x1, x2, x3, x4, y0, y1, y2, y3, y4, hxz⟩ := i_ HL6.out.at_
  obtain ⟨r0, r1, r2, r3, r4, t0, t1, t2, t3, t4, hrz⟩ := i_ HR6.out
  have m1 : ¬ R = X := by omega
  have m2 : ¬ X = R := by omega
  (try dsimp only at x0 x1 x2 x3 x4)
  have HXR := h_ (show R < w2.heap.size by omega)
  go_wp2_with fail
  obtain ⟨W9, hW9⟩ : ∃ W9, W9 = (((((w6.setCell ⟨R, 0, none⟩ (.int .i64 e5)).setCell ⟨R, 1, none⟩ (.int .i64 n5)).setCell ⟨R, 2, none⟩ (.slice sA5 s5.length sc5)).setCell ⟨R, 3, none⟩ (.slice qA5 q5.length qc5)).setCell ⟨R, 4, none⟩ (.int .i64 h5)) := ⟨_, rfl⟩
  rw [← hW9]
  have hO : Only R w6 W9 := by rw [hW9]; exact ((((Only.set _ _ _).trans (Only.set _ _ _)).trans (Only.set _ _ _)).trans (Only.set _ _ _)).trans (Only.set _ _ _)
  have hR9 : LinkAt W9 R ⟨e5, n5, sA5, sc5, s5, qA5, qc5, q5, h5⟩ := by
   rw [hW9]
   exact e_ 4 (.int .i64 h5) (e_ 3 (.slice qA5 q5.length qc5) (e_ 2 (.slice sA5 s5.length sc5) (e_ 1 (.int .i64 n5) (e_ 0 (.int .i64 e5) HR6.out))))
  clear hW9 r0 r1 r2 r3 r4
  obtain ⟨r0, r1, r2, r3, r4, _, _, _, _, _, _⟩ := i_ hR9
  refine bodyPost_ret (v := .tuple #[(⟨e5, n5, sA5, sc5, s5, qA5, qc5, q5, h5⟩ : LinkV).val, .slice A5 L5.length c5, .int .i64 0]) (by simp [results, Tryz.results116, go_sem, r0, r1, r2, r3, r4]) rfl ?_
  exact ⟨⟨e5, n5, sA5, sc5, s5, qA5, qc5, q5, h5⟩, A5, c5, L5, rfl, hd5, hp5, (HL6.out.inS).moved fun b hb => ⟨⟨by have := hb.1; omega, Nat.lt_of_lt_of_le hb.2 hO.size⟩, hO.block b hb.2 (by have := hb.1; have := HXR.out; omega)⟩, ⟨(Sl.of_own _ HO6'.out.row).moved fun b hb => ⟨⟨by omega, Nat.lt_of_lt_of_le hb.2 hO.size⟩, hO.block b hb.2 (by omega)⟩, fun p hp => (HO6'.out.each p hp).moved fun b hb => ⟨⟨by have := hb.1.1; omega, Nat.lt_of_lt_of_le hb.1.2 hO.size⟩, hO.block b hb.1.2 (by omega)⟩⟩, HB6.out.trans (hO.below (by omega) (by omega))⟩)
def opsSmall (x : LinkD) : Prop := (∀ f ∈ x.s, f.op.length ≤ 1048576) ∧ ∀ f ∈ x.q, f.op.length ≤ 1048576
theorem kk_ (x : LinkD) : fillN x ≤ 8 ∧ fillN x ≤ x.q.length := by
 unfold fillN
 omega
theorem iy_ {x : LinkD} (h : opsSmall x) : opsSmall (fillL x) := by
 refine ⟨fun f hf => ?_, fun f hf => h.2 f (List.mem_of_mem_drop hf)⟩
 rcases List.mem_append.1 hf with hf | hf
 · exact h.1 f hf
 · exact h.2 f (List.mem_of_mem_take hf)
theorem rw_ {x : LinkD} (h : opsSmall x) : (fillP x).length ≤ 8 ∧ ∀ p ∈ fillP x, p.frame.op.length ≤ 1048576 := by
 unfold fillP
 refine ⟨by simpa using (kk_ x).1, fun p hp => ?_⟩
 obtain ⟨k, _, rfl⟩ := List.mem_map.1 hp
 have hs := (iy_ h).1
 show ((fillL x).s.getD _ default).op.length ≤ _
 rw [List.getD_eq_getElem?_getD]
 cases hc : (fillL x).s[x.s.length + k]? with
 | none => exact Nat.zero_le _
 | some f => exact hs f (List.mem_of_getElem? hc)
theorem md_ {x : LinkD} {f : FrameD} (h : opsSmall x) (hf : f.op.length ≤ 1048576) : opsSmall (waitL x f) := by
 refine ⟨h.1, fun g hg => ?_⟩
 rcases List.mem_append.1 hg with hg | hg
 · exact h.2 g hg
 · obtain rfl := List.mem_singleton.1 hg
   exact hf
theorem LinkV.Small.ops {l : LinkV} (h : l.Small) : opsSmall l.d := by
 refine ⟨fun f hf => ?_, fun f hf => ?_⟩
 · obtain ⟨g, hg, rfl⟩ := List.mem_map.1 hf
   exact (h.s g hg).op.len
 · obtain ⟨g, hg, rfl⟩ := List.mem_map.1 hf
   exact (h.q g hg).op.len
theorem so_ {L : List FrameV} (h : ∀ f ∈ L.map FrameV.d, f.op.length ≤ 1048576) : ∀ f ∈ L, f.o.ps.length ≤ 1048576 := fun f hf => h f.d (List.mem_map.2 ⟨f, hf, rfl⟩)
theorem FrameV.Small.of_d {f f' : FrameV} (h : f'.d = f.d) (hk : f.Small) : f'.Small := em_ (L := [f]) (L' := [f']) (by simpa using h) (by simpa using hk) f' (by simp)
theorem gi_ (x : LinkD) : (fillP x).length ≤ 8 := by
 unfold fillP
 simpa using (kk_ x).1
end Go.Proofs.YtacacoklddogmaaGreatDoor
