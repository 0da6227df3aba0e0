/-
  Contract of link.Hear: another frame.
  Contract of link.Hear: another frame.
  Contract of link.Hear: the next frame.
  Contract of link.Hear: the next frame.
  Contract of link.Hear: another frame.
-/
import Derived.Test.YtgcapkkgminidaaDoorRows
import Derived.Test.YtgcapkkgminidaaDoorMHearP
import Derived.Test.YtgcapkkgminidaaDoorPackets
import Derived.BigRegion
namespace Go.Proofs.YtgcapkkgminidaaDoor
open Go.ChangeShapes Go.WideShapes Go.ChangeAt Go.RowKit
set_option maxRecDepth 100000
set_option maxHeartbeats 2000000 in
theorem Hear_on (w : World) (l : LinkV) (p : PacketV) (hT : Tabs w) (hi : l.In w) (hm : l.Small) (hf : OpIn (· < w.heap.size) w p.f.o.A p.f.o.ps) (hfm : p.f.Small) (hk : linkMay l) (he : packetFault p.d = 0) (h0 : l.e ≠ 0) (h1 : p.ep = l.e) (hA : p.ak < l.n - l.s.length) (hb : p.b = false) (hn : p.nu ≠ l.h + 1) :
    Calls Tryd.prog 21 #[l.val, packetV p.ep p.nu p.b p.ak p.f.k p.f.h p.f.e p.f.o.A p.f.o.ps.length p.f.o.c p.f.s] w (RetHear w (fillL ⟨l.e, l.n, (l.s.map FrameV.d), l.q.map FrameV.d, l.h⟩) zeroF.d false (fillP ⟨l.e, l.n, (l.s.map FrameV.d), l.q.map FrameV.d, l.h⟩ ++ [bareX ⟨l.e, l.n, (l.s.map FrameV.d), l.q.map FrameV.d, l.h⟩]) 0) := by
  have HC := Lib.hid (fun W hT hi => LinkCheck_c W l hT hi hm)
  rw [if_pos hk] at HC
  have HF := Lib.hid (fun W hT hs => CheckPacket_c W p.ep p.nu p.b p.ak p.f.k p.f.h p.f.e p.f.o.A p.f.o.c p.f.o.ps p.f.s hT hs hfm.op.len hfm.op.text hfm.text)
  rw [show packetFault ⟨p.ep, p.nu, p.b, p.ak, ⟨p.f.k, p.f.h, p.f.e, p.f.o.ps, p.f.s⟩⟩ = 0 from he] at HF
  have HOP := Lib.hid hf
  have HOW := Lib.hid (fun W hi => linkOwn_c W l hi hm)
  have HM := Lib.hid hm
  have HK := Lib.hid hk
  have hpa : 0 ≤ p.ak ∧ p.ak ≤ 1048576 := by
    unfold packetFault at he
    by_cases g : (p.ep < 0 ∨ 1048576 < p.ep) ∨ (p.nu < 0 ∨ 1048576 < p.nu) ∨ (p.ak < 0 ∨ 1048576 < p.ak)
    · rw [if_pos g] at he
      cases he
    · omega
  obtain ⟨i0, hi0, hz0, hz1, hz2⟩ := info_parts infoPacket
  have HI := Lib.hid hi
  have HT := Lib.hid hT
  obtain ⟨e, n, sA, sc, s, qA, qc, q, hv⟩ := l
  obtain ⟨pe, pn, pb, pa, ⟨fk, fh, fe, ⟨fA, fc, fp⟩, fs⟩⟩ := p
  obtain ⟨D, hD⟩ : ∃ D : LinkD, D = ⟨e, n, (s.map FrameV.d), q.map FrameV.d, hv⟩ := ⟨_, rfl⟩
  dsimp only at *
  rw [← hD]
  have HDD := Lib.hid hD
  have e0 : (e == 0) = false := by simpa using h0
  have e1 : (pe != e) = false := by simpa using h1
  clear hD h0 h1
  subst hb
  have e2 : (pn == hv + 1) = false := by simpa using hn
  clear hn
  obtain ⟨W1, hW1⟩ : ∃ W1, W1 = w.alloc (.cells #[.int .i64 e, .int .i64 n, .slice sA s.length sc, .slice qA q.length qc, .int .i64 hv] 35) := ⟨_, rfl⟩
  obtain ⟨W2, hW2⟩ : ∃ W2, W2 = W1.alloc (.cells #[.int .i64 pe, .int .i64 pn, .bool false, .int .i64 pa, .int .i64 fk, .int .i64 fh, .int .i64 fe, .slice fA fp.length fc, .string fs] 39) := ⟨_, rfl⟩
  obtain ⟨W3, hW3⟩ : ∃ W3, W3 = W2.alloc (.cells #[.int .i64 0, .int .i64 0, .slice none 0 0, .slice none 0 0, .int .i64 0] 35) := ⟨_, rfl⟩
  obtain ⟨WA, hWA⟩ : ∃ WA, WA = W3.alloc (.cells #[.int .i64 0, .int .i64 0, .int .i64 0, .slice none 0 0, .string ⟨#[]⟩] 37) := ⟨_, rfl⟩
  have g1 : W1.heap.size = w.heap.size + 1 := by rw [hW1]; simp
  have g2 : W2.heap.size = W1.heap.size + 1 := by rw [hW2]; simp
  have g3 : W3.heap.size = W2.heap.size + 1 := by rw [hW3]; simp
  have g4 : WA.heap.size = W3.heap.size + 1 := by rw [hWA]; simp
  have k1 : Below w.heap.size w W1 := by rw [hW1]; exact bAlloc (Below.refl _ _) _
  have k2 : Below W1.heap.size W1 W2 := by rw [hW2]; exact bAlloc (Below.refl _ _) _
  have k3 : Below W2.heap.size W2 W3 := by rw [hW3]; exact bAlloc (Below.refl _ _) _
  have k4 : Below W3.heap.size W3 WA := by rw [hWA]; exact bAlloc (Below.refl _ _) _
  have k34 := bThen k3 k4
  have k24 := bThen k2 k34
  have HA0 := Lib.hid (show HearAt w WA W1.heap.size W2.heap.size W3.heap.size ⟨e, n, sA, sc, s, qA, qc, q, hv⟩ ⟨pe, pn, false, pa, ⟨fk, fh, fe, ⟨fA, fc, fp⟩, fs⟩⟩ zeroF from
    ⟨(k24.block _ (by omega)).trans (by rw [hW1]; exact heap_alloc_new _ _), (k34.block _ (by omega)).trans (by rw [hW2]; exact heap_alloc_new _ _), (k4.block _ (by omega)).trans (by rw [hW3]; exact heap_alloc_new _ _), by rw [hWA]; exact heap_alloc_new _ _, bThen k1 k24⟩)
  have HW := Lib.hid (show (((w.alloc (.cells #[.int .i64 e, .int .i64 n, .slice sA s.length sc, .slice qA q.length qc, .int .i64 hv] 35)).alloc (.cells #[.int .i64 pe, .int .i64 pn, .bool false, .int .i64 pa, .int .i64 fk, .int .i64 fh, .int .i64 fe, .slice fA fp.length fc, .string fs] 39)).alloc (.cells #[.int .i64 0, .int .i64 0, .slice none 0 0, .slice none 0 0, .int .i64 0] 35)).alloc (.cells #[.int .i64 0, .int .i64 0, .int .i64 0, .slice none 0 0, .string ⟨#[]⟩] 37) = WA by rw [hWA, hW3, hW2, hW1])
  obtain ⟨Q, hQ⟩ : ∃ Q, Q = W1.heap.size := ⟨_, rfl⟩
  obtain ⟨R, hR⟩ : ∃ R, R = W2.heap.size := ⟨_, rfl⟩
  obtain ⟨F, hF⟩ : ∃ F, F = W3.heap.size := ⟨_, rfl⟩
  have HE1 := Lib.hid (show w.heap.size + 1 + 1 + 1 = F by omega)
  have HE2 := Lib.hid (show w.heap.size + 1 + 1 = R by omega)
  have HE3 := Lib.hid (show w.heap.size + 1 = Q by omega)
  have hord : w.heap.size < Q ∧ Q < R ∧ R < F := by omega
  have HO := Lib.hid hord
  have hFA : F < WA.heap.size := by omega
  have m1 : ¬ R = F := by omega
  have m2 : ¬ F = R := by omega
  rw [← hQ, ← hR, ← hF] at HA0
  clear hQ hR hF k1 k2 k3 k4 k34 k24 g1 g2 g3 g4 hWA hW3 hW2 hW1 hord hi hT hm hk hf hfm he
  go_enter Tryd.func21, Tryd.ntmps21
  go_wp2_with fail
  rw [HW.out, HE1.out, HE2.out, HE3.out]
  refine (HC.out _ (HT.out.later HA0.out.b) (HI.out.later HA0.out.b)).mono ?_
  rintro r w1 ⟨rfl, hb1⟩
  have HA1 := Lib.hid (HA0.out.later hb1)
  clear hb1
  obtain ⟨p0, p1, p2, p3, p4, v0, v1, v2, v3, v4, pz⟩ := five_cell HA1.out.l
  obtain ⟨q0, q1, q2, q3, q4, q5, q6, q7, q8, g0, g1, g2, g3, g4, g5, g6, g7, g8, gz⟩ := nine_cell HA1.out.p
  obtain ⟨r0, r1, r2, r3, r4, j0, j1, j2, j3, j4, rz⟩ := five_cell HA1.out.r
  obtain ⟨t0, t1, t2, t3, t4, k0, k1, k2, k3, k4, tz⟩ := five_cell HA1.out.f
  go_wp2_with fail
  refine (HF.out _ (HT.out.later HA1.out.b) (Sl.later HOP.out HA1.out.b)).mono ?_
  rintro r w2 ⟨rfl, hb2⟩
  have HA2 := Lib.hid (HA1.out.later hb2)
  clear hb2 p0 p1 p2 p3 p4 v0 v1 v2 v3 v4 pz q0 q1 q2 q3 q4 q5 q6 q7 q8 g0 g1 g2 g3 g4 g5 g6 g7 g8 gz r0 r1 r2 r3 r4 j0 j1 j2 j3 j4 rz t0 t1 t2 t3 t4 k0 k1 k2 k3 k4 tz
  obtain ⟨p0, p1, p2, p3, p4, v0, v1, v2, v3, v4, pz⟩ := five_cell HA2.out.l
  obtain ⟨q0, q1, q2, q3, q4, q5, q6, q7, q8, g0, g1, g2, g3, g4, g5, g6, g7, g8, gz⟩ := nine_cell HA2.out.p
  obtain ⟨r0, r1, r2, r3, r4, j0, j1, j2, j3, j4, rz⟩ := five_cell HA2.out.r
  obtain ⟨t0, t1, t2, t3, t4, k0, k1, k2, k3, k4, tz⟩ := five_cell HA2.out.f
  go_wp2_with fail
  refine (HOW.out _ (HI.out.later HA2.out.b)).mono ?_
  rintro r w3 ⟨⟨e3, n3, sA3, sc3, s3, qA3, qc3, q3', h3⟩, mid, rfl, hd3, hmid, hS3, hQ3, hb3⟩
  have hd3' := hd3
  simp only [LinkV.d, LinkD.mk.injEq] at hd3'
  obtain ⟨d1, d2, d3, d4, d5⟩ := hd3'
  have d1 := d1.symm
  have d2 := d2.symm
  have d5 := d5.symm
  subst d1 d2 d5
  have hl3 : s3.length = s.length := by have := congrArg List.length d3; simpa using this
  have hl4 : q3'.length = q.length := by have := congrArg List.length d4; simpa using this
  have hz3 := hb3.size
  obtain ⟨W4, hW4⟩ : ∃ W4, W4 = w3.alloc (.cells #[.int .i64 e, .int .i64 n, .slice sA3 s3.length sc3, .slice qA3 q3'.length qc3, .int .i64 hv] 35) := ⟨_, rfl⟩
  have hb4 : Below w3.heap.size w3 W4 := by rw [hW4]; exact bAlloc (Below.refl _ _) _
  have hz4 : W4.heap.size = w3.heap.size + 1 := by rw [hW4]; simp
  have hX4 : LinkAt W4 w3.heap.size ⟨e, n, sA3, sc3, s3, qA3, qc3, q3', hv⟩ := by rw [hW4]; exact heap_alloc_new _ _
  have HL4 := LinkSt.plain (l := ⟨e, n, sA3, sc3, s3, qA3, qc3, q3', hv⟩) hS3 hQ3 hmid hb4 hX4
  have HA3 := Lib.hid (HA2.out.later hb3)
  have HA4 := Lib.hid (HA2.out.later (bThen hb3 hb4))
  obtain ⟨X, hX⟩ : ∃ X, X = w3.heap.size := ⟨_, rfl⟩
  rw [← hX] at HL4
  have hba : F < w2.heap.size ∧ w2.heap.size ≤ X ∧ X < W4.heap.size := ⟨HA2.out.lt.2.2.2, by omega, by omega⟩
  have HBA := Lib.hid hba
  have HNM := Lib.hid (show ((s.length : Int) < n ∧ n ≤ 1048576) ∧ s.length ≤ 8 ∧ q.length ≤ 1048576 ∧ (0 ≤ hv ∧ hv ≤ 1048576) from ⟨⟨HK.out.2.1.2.1, HK.out.1.2.1.2⟩, HK.out.2.1.1, HM.out.ql, HK.out.1.2.2⟩)
  have HSM := Lib.hid (show (∀ f ∈ s3, f.o.ps.length ≤ 1048576) ∧ ∀ f ∈ q3', f.o.ps.length ≤ 1048576 from
    ⟨fun f hf => (small_d d3 HM.out.s f hf).op.len, fun f hf => (small_d d4 HM.out.q f hf).op.len⟩)
  have H3 := Lib.hid d3
  have H4 := Lib.hid d4
  have HL3 := Lib.hid hl3
  have HLQ := Lib.hid hl4
  have HXE := Lib.hid hX
  have HW4 := Lib.hid hW4
  have a1 : decide (n - (s3.length : Int) ≤ pa) = false := by have := hA; simp; omega
  clear hA
  have HL4 := Lib.hid HL4
  clear hX hX4 hS3 hQ3 hmid hb3 hb4 hz4 hd3 d3 d4 hl3 hl4 hW4 p0 p1 p2 p3 p4 v0 v1 v2 v3 v4 pz q0 q1 q2 q3 q4 q5 q6 q7 q8 g0 g1 g2 g3 g4 g5 g6 g7 g8 gz r0 r1 r2 r3 r4 j0 j1 j2 j3 j4 rz t0 t1 t2 t3 t4 k0 k1 k2 k3 k4 tz
  obtain ⟨p0, p1, p2, p3, p4, v0, v1, v2, v3, v4, pz⟩ := five_cell HA3.out.l
  obtain ⟨q0, q1, q2, q3, q4, q5, q6, q7, q8, g0, g1, g2, g3, g4, g5, g6, g7, g8, gz⟩ := nine_cell HA3.out.p
  have n1 : ¬ w3.heap.size = Q := by have := HA3.out.lt; omega
  have n2 : ¬ Q = w3.heap.size := by omega
  have hfirst : wrap64 (n - (s3.length : Int)) = n - s3.length := wrap_in (by have := HNM.out; have := HL3.out; omega)
  have hw : wrap64 (hv + 1) = hv + 1 := wrap_in (by have := HNM.out; omega)
  go_wp2_with fail
  all_goals (
    clear hfirst hw
    rw [← HXE.out]
    have hl := HL4.out
    rw [HW4.out, HXE.out] at hl
    refine calls_hide (fun W => (∃ A4 c4, LinkSt W w2.heap.size X ⟨e, n, A4, c4, s3, qA3, qc3, q3', hv⟩) ∧ HearAt w W Q R F ⟨e, n, sA, sc, s, qA, qc, q, hv⟩ ⟨pe, pn, false, pa, ⟨fk, fh, fe, ⟨fA, fc, fp⟩, fs⟩⟩ zeroF ∧ X < W.heap.size) ⟨?_, HA3.out.later (bAlloc (Below.refl _ _) _), by have := HXE.out; simp; omega⟩ ?_
    · rw [HXE.out]
      exact ⟨_, _, hl⟩
    clear hl q0 q1 q2 q3 q4 q5 q6 q7 q8 g0 g1 g2 g3 g4 g5 g6 g7 g8 gz p0 p1 p2 p3 p4 v0 v1 v2 v3 v4 pz
    rintro W5 ⟨⟨A4, c4, hL5⟩, hA5, hz5⟩
    have HL5 := Lib.hid hL5
    have HA5 := Lib.hid hA5
    clear hL5 hA5
    have HFL := Lib.hid (fill_c W5 w2.heap.size X ⟨e, n, A4, c4, s3, qA3, qc3, q3', hv⟩ HL5.out (by have := HBA.out; omega) (by have := HNM.out; have := HL3.out; dsimp only; omega) (by have := HNM.out; dsimp only; omega) (by have := HNM.out; have := HLQ.out; dsimp only; omega) ⟨fun f hf => HSM.out.1 f (hf), HSM.out.2⟩)
    rw [show LinkV.d ⟨e, n, A4, c4, s3, qA3, qc3, q3', hv⟩ = D by rw [HDD.out]; simp only [LinkV.d, H3.out, H4.out]] at HFL
    refine HFL.out.mono ?_
    rintro r w6 ⟨l5, A5, c5, L5, rfl, hd5, hp5, hL6, ho6, hu6, hsp, wm, hLm, hbm, hom, hzm⟩
    have HSP := Lib.hid hsp
    have HA6 := Lib.hid (HA5.out.upon (by have := HO.out; have := HBA.out; omega) hu6)
    have HL6 := Lib.hid hL6
    have HD5 := Lib.hid hd5
    have HP5 := Lib.hid hp5
    have HO6 := Lib.hid ho6
    have HLM := Lib.hid hLm
    have HBM := Lib.hid hbm
    have HOM := Lib.hid hom
    have hz6 := hu6.size
    clear hd5 hp5 hL6 ho6 hu6 hLm hbm hom HFL hsp
    obtain ⟨e5, n5, sA5, sc5, s5, qA5, qc5, q5, h5⟩ := l5
    obtain ⟨x0, x1, x2, x3, x4, y0, y1, y2, y3, y4, hxz⟩ := five_cell HL6.out.at_
    obtain ⟨q0, q1, q2, q3, q4, q5', q6, q7, q8, _, _, _, _, _, _, _, _, _, gz⟩ := nine_cell HA6.out.p
    obtain ⟨r0, r1, r2, r3, r4, j0, j1, j2, j3, j4, rz⟩ := five_cell HA6.out.r
    obtain ⟨t0, t1, t2, t3, t4, k0, k1, k2, k3, k4, tz⟩ := five_cell HA6.out.f
    (try dsimp only at x0 x1 x2 x3 x4)
    have z1 : ¬ R = X := by have := HO.out; have := HBA.out; omega
    have z2 : ¬ X = R := by omega
    have z3 : ¬ F = X := by have := HO.out; have := HBA.out; omega
    have z4 : ¬ X = F := by omega
    have HB0 := Lib.hid (bare_c w6 ⟨e5, n5, sA5, sc5, s5, qA5, qc5, q5, h5⟩)
    unfold bareD RetPacket at HB0
    dsimp only at HB0
    go_wp2_with fail
    refine HB0.out.mono ?_
    rintro r w7 ⟨A7, c7, rfl, ho7, hb7⟩
    have HX7 := Lib.hid ((HOM.out.later hb7).row.alloc (.cells #[.int .i64 e5, .int .i64 0, .bool true, .int .i64 h5, .int .i64 0, .int .i64 0, .int .i64 0, .slice A7 0 c7, .string ⟨#[]⟩] 39))
    have HO7 := Lib.hid ho7
    have HB7 := Lib.hid hb7
    have hz7 := hb7.size
    have HLEN := Lib.hid (show L5.length ≤ 8 from by have h1 := congrArg List.length HP5.out; have h2 := fillP_len D; rw [List.length_map, h2.1] at h1; omega)
    have hlen := HLEN.out
    have hzmw := HBM.out.size
    clear ho7 hb7 HB0
    go_wp2_with (refine stop_append rfl ?_)
    refine ⟨?_⟩
    refine wpList_append_sl _ rfl _ _ 41 rfl wm.heap.size 39 i0 (.agg #[.int .i64 0, .int .i64 0, .bool false, .int .i64 0, .int .i64 0, .int .i64 0, .int .i64 0, .slice none 0 0, .string ⟨#[]⟩]) 9 96 Tryd.underlying41 hi0 hz0 hz1 hz2 rfl (by decide) _ _ _ rfl HX7.out (fun _ => True) _ _ _ _ rfl (row_top (by rfl) (by simp)) ?c1 ?c2 ?c3 ?c4 ?_
    case c1 => intro u hu; simp at hu; rcases hu with rfl | rfl | rfl | rfl | rfl | rfl | rfl | rfl | rfl <;> rfl
    case c2 => unfold maxLen; omega
    case c3 => omega
    case c4 => simp; omega
    intro A8 c8 w8 hown' hgrow hat
    have hP := RowOwn.push (f := PacketV.cells) (op := PacketV.op) (x := ⟨e5, 0, true, h5, ⟨0, 0, 0, ⟨A7, c7, []⟩, ⟨#[]⟩⟩⟩) HOM.out hzmw HB7.out HO7.out hgrow hown' hat
    have hF := push_frame HBM.out HB7.out hgrow (fun g hg => (HOM.out.row.lt g hg).1)
    have hU : Upon w2.heap.size X w6 w8 := (Upon.of_below (bAlloc HB7.out _) (by have := HBA.out; omega)).trans (Upon.grown hgrow (by have := HBA.out; simp; omega) (fun g hg => by have := (HOM.out.row.lt g hg).1; have := HBA.out; omega))
    have HA8 := Lib.hid (HA6.out.upon (by have := HO.out; have := HBA.out; omega) hU)
    have HL8 := Lib.hid (HLM.out.later hF)
    have HP8 := Lib.hid hP
    have HD8 := Lib.hid (show (L5 ++ [(⟨e5, 0, true, h5, ⟨0, 0, 0, ⟨A7, c7, []⟩, ⟨#[]⟩⟩⟩ : PacketV)]).map PacketV.d = fillP D ++ [bareX D] by
      have h1 := HD5.out
      simp only [LinkV.d, fillL, LinkD.mk.injEq] at h1
      rw [List.map_append, HP5.out]
      unfold bareX
      rw [← h1.1, ← h1.2.2.2.2]
      rfl)
    have hz8 := hU.size
    have HZ8 := Lib.hid hF.size
    clear hown' hgrow hat hP hF hU x0 x1 x2 x3 x4 y0 y1 y2 y3 y4 hxz r0 r1 r2 r3 r4 j0 j1 j2 j3 j4 rz t0 t1 t2 t3 t4 k0 k1 k2 k3 k4 tz q0 q1 q2 q3 q4 q5' q6 q7 q8 gz
    obtain ⟨x0, x1, x2, x3, x4, y0, y1, y2, y3, y4, hxz⟩ := five_cell HL8.out.at_
    obtain ⟨r0, r1, r2, r3, r4, j0, j1, j2, j3, j4, rz⟩ := five_cell HA8.out.r
    obtain ⟨t0, t1, t2, t3, t4, k0, k1, k2, k3, k4, tz⟩ := five_cell HA8.out.f
    (try dsimp only at x0 x1 x2 x3 x4 t0 t1 t2 t3 t4)
    go_wp2_with fail
    go_region
    go_wp2_with fail
    obtain ⟨W9, hW9⟩ : ∃ W9, W9 = ((((((((((w8).setCell ⟨R, 0, none⟩ (.int .i64 e5)).setCell ⟨R, 1, none⟩ (.int .i64 n5)).setCell ⟨R, 2, none⟩ (.slice sA5 s5.length sc5)).setCell ⟨R, 3, none⟩ (.slice qA5 q5.length qc5)).setCell ⟨R, 4, none⟩ (.int .i64 h5)).setCell ⟨F, 0, none⟩ (.int .i64 0)).setCell ⟨F, 1, none⟩ (.int .i64 0)).setCell ⟨F, 2, none⟩ (.int .i64 0)).setCell ⟨F, 3, none⟩ (.slice none 0 0)).setCell ⟨F, 4, none⟩ (.string ⟨#[]⟩) := ⟨_, rfl⟩
    rw [← hW9]
    obtain ⟨WZ, hWZ⟩ : ∃ WZ, WZ = W9.drew := ⟨_, rfl⟩
    rw [← hWZ]
    obtain ⟨a1, a2, a3⟩ := drew_sets (ten_sets HA8.out.r HA8.out.f m1 hW9) hWZ
    have hB9 := HA8.out.b.trans (a3.below (base := w.heap.size) (by have := HO.out; omega) (by have := HO.out; omega) HA8.out.b.size)
    clear hW9 hWZ r0 r1 r2 r3 r4 t0 t1 t2 t3 t4
    obtain ⟨r0, r1, r2, r3, r4, _, _, _, _, _, _⟩ := five_cell a1
    obtain ⟨t0, t1, t2, t3, t4, _, _, _, _, _, _⟩ := five_cell a2
    refine bodyPost_ret (v := .tuple #[(⟨e5, n5, sA5, sc5, s5, qA5, qc5, q5, h5⟩ : LinkV).val, frameV 0 0 0 none 0 0 ⟨#[]⟩, .bool false, .slice A8 (L5.length + 1) c8, .int .i64 0]) (by simp [results, Tryd.results21, go_sem, r0, r1, r2, r3, r4, t0, t1, t2, t3, t4]) rfl ?_
    exact ⟨⟨e5, n5, sA5, sc5, s5, qA5, qc5, q5, h5⟩, none, 0, A8, c8, L5 ++ [⟨e5, 0, true, h5, ⟨0, 0, 0, ⟨A7, c7, []⟩, ⟨#[]⟩⟩⟩], by simp, HD5.out, HD8.out, HL8.out.in_two a3 (by have := HBA.out; have := HO.out; omega) (by have := HBA.out; omega), Sl.nil, PacketsOwn.in_two HP8.out a3 (by have := HBA.out; have := HO.out; omega) (by have := HBA.out; omega), hB9⟩)
end Go.Proofs.YtgcapkkgminidaaDoor
namespace Go.Proofs.YtgcapkkgminidaaDoor
open Go.ChangeShapes Go.WideShapes Go.ChangeAt Go.RowKit
set_option maxRecDepth 100000
set_option maxHeartbeats 2000000 in
theorem Hear_xn (w : World) (l : LinkV) (p : PacketV) (hT : Tabs w) (hi : l.In w) (hm : l.Small) (hf : OpIn (· < w.heap.size) w p.f.o.A p.f.o.ps) (hfm : p.f.Small) (hk : linkMay l) (he : packetFault p.d = 0) (h0 : l.e ≠ 0) (h1 : p.ep = l.e) (hA : l.n - l.s.length ≤ p.ak ∧ l.n ≤ p.ak) (hb : p.b = false) (hn : p.nu ≠ l.h + 1) :
    Calls Tryd.prog 21 #[l.val, packetV p.ep p.nu p.b p.ak p.f.k p.f.h p.f.e p.f.o.A p.f.o.ps.length p.f.o.c p.f.s] w (RetHear w (fillL ⟨l.e, l.n, (l.s.map FrameV.d), l.q.map FrameV.d, l.h⟩) zeroF.d false (fillP ⟨l.e, l.n, (l.s.map FrameV.d), l.q.map FrameV.d, l.h⟩ ++ [bareX ⟨l.e, l.n, (l.s.map FrameV.d), l.q.map FrameV.d, l.h⟩]) 0) := by
  have HC := Lib.hid (fun W hT hi => LinkCheck_c W l hT hi hm)
  rw [if_pos hk] at HC
  have HF := Lib.hid (fun W hT hs => CheckPacket_c W p.ep p.nu p.b p.ak p.f.k p.f.h p.f.e p.f.o.A p.f.o.c p.f.o.ps p.f.s hT hs hfm.op.len hfm.op.text hfm.text)
  rw [show packetFault ⟨p.ep, p.nu, p.b, p.ak, ⟨p.f.k, p.f.h, p.f.e, p.f.o.ps, p.f.s⟩⟩ = 0 from he] at HF
  have HOP := Lib.hid hf
  have HOW := Lib.hid (fun W hi => linkOwn_c W l hi hm)
  have HM := Lib.hid hm
  have HK := Lib.hid hk
  have hpa : 0 ≤ p.ak ∧ p.ak ≤ 1048576 := by
    unfold packetFault at he
    by_cases g : (p.ep < 0 ∨ 1048576 < p.ep) ∨ (p.nu < 0 ∨ 1048576 < p.nu) ∨ (p.ak < 0 ∨ 1048576 < p.ak)
    · rw [if_pos g] at he
      cases he
    · omega
  obtain ⟨i0, hi0, hz0, hz1, hz2⟩ := info_parts infoPacket
  have HI := Lib.hid hi
  have HT := Lib.hid hT
  obtain ⟨e, n, sA, sc, s, qA, qc, q, hv⟩ := l
  obtain ⟨pe, pn, pb, pa, ⟨fk, fh, fe, ⟨fA, fc, fp⟩, fs⟩⟩ := p
  obtain ⟨D, hD⟩ : ∃ D : LinkD, D = ⟨e, n, (s.map FrameV.d), q.map FrameV.d, hv⟩ := ⟨_, rfl⟩
  dsimp only at *
  rw [← hD]
  have HDD := Lib.hid hD
  have e0 : (e == 0) = false := by simpa using h0
  have e1 : (pe != e) = false := by simpa using h1
  clear hD h0 h1
  subst hb
  have e2 : (pn == hv + 1) = false := by simpa using hn
  clear hn
  obtain ⟨W1, hW1⟩ : ∃ W1, W1 = w.alloc (.cells #[.int .i64 e, .int .i64 n, .slice sA s.length sc, .slice qA q.length qc, .int .i64 hv] 35) := ⟨_, rfl⟩
  obtain ⟨W2, hW2⟩ : ∃ W2, W2 = W1.alloc (.cells #[.int .i64 pe, .int .i64 pn, .bool false, .int .i64 pa, .int .i64 fk, .int .i64 fh, .int .i64 fe, .slice fA fp.length fc, .string fs] 39) := ⟨_, rfl⟩
  obtain ⟨W3, hW3⟩ : ∃ W3, W3 = W2.alloc (.cells #[.int .i64 0, .int .i64 0, .slice none 0 0, .slice none 0 0, .int .i64 0] 35) := ⟨_, rfl⟩
  obtain ⟨WA, hWA⟩ : ∃ WA, WA = W3.alloc (.cells #[.int .i64 0, .int .i64 0, .int .i64 0, .slice none 0 0, .string ⟨#[]⟩] 37) := ⟨_, rfl⟩
  have g1 : W1.heap.size = w.heap.size + 1 := by rw [hW1]; simp
  have g2 : W2.heap.size = W1.heap.size + 1 := by rw [hW2]; simp
  have g3 : W3.heap.size = W2.heap.size + 1 := by rw [hW3]; simp
  have g4 : WA.heap.size = W3.heap.size + 1 := by rw [hWA]; simp
  have k1 : Below w.heap.size w W1 := by rw [hW1]; exact bAlloc (Below.refl _ _) _
  have k2 : Below W1.heap.size W1 W2 := by rw [hW2]; exact bAlloc (Below.refl _ _) _
  have k3 : Below W2.heap.size W2 W3 := by rw [hW3]; exact bAlloc (Below.refl _ _) _
  have k4 : Below W3.heap.size W3 WA := by rw [hWA]; exact bAlloc (Below.refl _ _) _
  have k34 := bThen k3 k4
  have k24 := bThen k2 k34
  have HA0 := Lib.hid (show HearAt w WA W1.heap.size W2.heap.size W3.heap.size ⟨e, n, sA, sc, s, qA, qc, q, hv⟩ ⟨pe, pn, false, pa, ⟨fk, fh, fe, ⟨fA, fc, fp⟩, fs⟩⟩ zeroF from
    ⟨(k24.block _ (by omega)).trans (by rw [hW1]; exact heap_alloc_new _ _), (k34.block _ (by omega)).trans (by rw [hW2]; exact heap_alloc_new _ _), (k4.block _ (by omega)).trans (by rw [hW3]; exact heap_alloc_new _ _), by rw [hWA]; exact heap_alloc_new _ _, bThen k1 k24⟩)
  have HW := Lib.hid (show (((w.alloc (.cells #[.int .i64 e, .int .i64 n, .slice sA s.length sc, .slice qA q.length qc, .int .i64 hv] 35)).alloc (.cells #[.int .i64 pe, .int .i64 pn, .bool false, .int .i64 pa, .int .i64 fk, .int .i64 fh, .int .i64 fe, .slice fA fp.length fc, .string fs] 39)).alloc (.cells #[.int .i64 0, .int .i64 0, .slice none 0 0, .slice none 0 0, .int .i64 0] 35)).alloc (.cells #[.int .i64 0, .int .i64 0, .int .i64 0, .slice none 0 0, .string ⟨#[]⟩] 37) = WA by rw [hWA, hW3, hW2, hW1])
  obtain ⟨Q, hQ⟩ : ∃ Q, Q = W1.heap.size := ⟨_, rfl⟩
  obtain ⟨R, hR⟩ : ∃ R, R = W2.heap.size := ⟨_, rfl⟩
  obtain ⟨F, hF⟩ : ∃ F, F = W3.heap.size := ⟨_, rfl⟩
  have HE1 := Lib.hid (show w.heap.size + 1 + 1 + 1 = F by omega)
  have HE2 := Lib.hid (show w.heap.size + 1 + 1 = R by omega)
  have HE3 := Lib.hid (show w.heap.size + 1 = Q by omega)
  have hord : w.heap.size < Q ∧ Q < R ∧ R < F := by omega
  have HO := Lib.hid hord
  have hFA : F < WA.heap.size := by omega
  have m1 : ¬ R = F := by omega
  have m2 : ¬ F = R := by omega
  rw [← hQ, ← hR, ← hF] at HA0
  clear hQ hR hF k1 k2 k3 k4 k34 k24 g1 g2 g3 g4 hWA hW3 hW2 hW1 hord hi hT hm hk hf hfm he
  go_enter Tryd.func21, Tryd.ntmps21
  go_wp2_with fail
  rw [HW.out, HE1.out, HE2.out, HE3.out]
  refine (HC.out _ (HT.out.later HA0.out.b) (HI.out.later HA0.out.b)).mono ?_
  rintro r w1 ⟨rfl, hb1⟩
  have HA1 := Lib.hid (HA0.out.later hb1)
  clear hb1
  obtain ⟨p0, p1, p2, p3, p4, v0, v1, v2, v3, v4, pz⟩ := five_cell HA1.out.l
  obtain ⟨q0, q1, q2, q3, q4, q5, q6, q7, q8, g0, g1, g2, g3, g4, g5, g6, g7, g8, gz⟩ := nine_cell HA1.out.p
  obtain ⟨r0, r1, r2, r3, r4, j0, j1, j2, j3, j4, rz⟩ := five_cell HA1.out.r
  obtain ⟨t0, t1, t2, t3, t4, k0, k1, k2, k3, k4, tz⟩ := five_cell HA1.out.f
  go_wp2_with fail
  refine (HF.out _ (HT.out.later HA1.out.b) (Sl.later HOP.out HA1.out.b)).mono ?_
  rintro r w2 ⟨rfl, hb2⟩
  have HA2 := Lib.hid (HA1.out.later hb2)
  clear hb2 p0 p1 p2 p3 p4 v0 v1 v2 v3 v4 pz q0 q1 q2 q3 q4 q5 q6 q7 q8 g0 g1 g2 g3 g4 g5 g6 g7 g8 gz r0 r1 r2 r3 r4 j0 j1 j2 j3 j4 rz t0 t1 t2 t3 t4 k0 k1 k2 k3 k4 tz
  obtain ⟨p0, p1, p2, p3, p4, v0, v1, v2, v3, v4, pz⟩ := five_cell HA2.out.l
  obtain ⟨q0, q1, q2, q3, q4, q5, q6, q7, q8, g0, g1, g2, g3, g4, g5, g6, g7, g8, gz⟩ := nine_cell HA2.out.p
  obtain ⟨r0, r1, r2, r3, r4, j0, j1, j2, j3, j4, rz⟩ := five_cell HA2.out.r
  obtain ⟨t0, t1, t2, t3, t4, k0, k1, k2, k3, k4, tz⟩ := five_cell HA2.out.f
  go_wp2_with fail
  refine (HOW.out _ (HI.out.later HA2.out.b)).mono ?_
  rintro r w3 ⟨⟨e3, n3, sA3, sc3, s3, qA3, qc3, q3', h3⟩, mid, rfl, hd3, hmid, hS3, hQ3, hb3⟩
  have hd3' := hd3
  simp only [LinkV.d, LinkD.mk.injEq] at hd3'
  obtain ⟨d1, d2, d3, d4, d5⟩ := hd3'
  have d1 := d1.symm
  have d2 := d2.symm
  have d5 := d5.symm
  subst d1 d2 d5
  have hl3 : s3.length = s.length := by have := congrArg List.length d3; simpa using this
  have hl4 : q3'.length = q.length := by have := congrArg List.length d4; simpa using this
  have hz3 := hb3.size
  obtain ⟨W4, hW4⟩ : ∃ W4, W4 = w3.alloc (.cells #[.int .i64 e, .int .i64 n, .slice sA3 s3.length sc3, .slice qA3 q3'.length qc3, .int .i64 hv] 35) := ⟨_, rfl⟩
  have hb4 : Below w3.heap.size w3 W4 := by rw [hW4]; exact bAlloc (Below.refl _ _) _
  have hz4 : W4.heap.size = w3.heap.size + 1 := by rw [hW4]; simp
  have hX4 : LinkAt W4 w3.heap.size ⟨e, n, sA3, sc3, s3, qA3, qc3, q3', hv⟩ := by rw [hW4]; exact heap_alloc_new _ _
  have HL4 := LinkSt.plain (l := ⟨e, n, sA3, sc3, s3, qA3, qc3, q3', hv⟩) hS3 hQ3 hmid hb4 hX4
  have HA3 := Lib.hid (HA2.out.later hb3)
  have HA4 := Lib.hid (HA2.out.later (bThen hb3 hb4))
  obtain ⟨X, hX⟩ : ∃ X, X = w3.heap.size := ⟨_, rfl⟩
  rw [← hX] at HL4
  have hba : F < w2.heap.size ∧ w2.heap.size ≤ X ∧ X < W4.heap.size := ⟨HA2.out.lt.2.2.2, by omega, by omega⟩
  have HBA := Lib.hid hba
  have HNM := Lib.hid (show ((s.length : Int) < n ∧ n ≤ 1048576) ∧ s.length ≤ 8 ∧ q.length ≤ 1048576 ∧ (0 ≤ hv ∧ hv ≤ 1048576) from ⟨⟨HK.out.2.1.2.1, HK.out.1.2.1.2⟩, HK.out.2.1.1, HM.out.ql, HK.out.1.2.2⟩)
  have HSM := Lib.hid (show (∀ f ∈ s3, f.o.ps.length ≤ 1048576) ∧ ∀ f ∈ q3', f.o.ps.length ≤ 1048576 from
    ⟨fun f hf => (small_d d3 HM.out.s f hf).op.len, fun f hf => (small_d d4 HM.out.q f hf).op.len⟩)
  have H3 := Lib.hid d3
  have H4 := Lib.hid d4
  have HL3 := Lib.hid hl3
  have HLQ := Lib.hid hl4
  have HXE := Lib.hid hX
  have HW4 := Lib.hid hW4
  have a1 : decide (n - (s3.length : Int) ≤ pa) = true := by have := hA; simp; omega
  have a2 : decide (pa < n) = false := by have := hA; simp; omega
  clear hA
  have HL4 := Lib.hid HL4
  clear hX hX4 hS3 hQ3 hmid hb3 hb4 hz4 hd3 d3 d4 hl3 hl4 hW4 p0 p1 p2 p3 p4 v0 v1 v2 v3 v4 pz q0 q1 q2 q3 q4 q5 q6 q7 q8 g0 g1 g2 g3 g4 g5 g6 g7 g8 gz r0 r1 r2 r3 r4 j0 j1 j2 j3 j4 rz t0 t1 t2 t3 t4 k0 k1 k2 k3 k4 tz
  obtain ⟨p0, p1, p2, p3, p4, v0, v1, v2, v3, v4, pz⟩ := five_cell HA3.out.l
  obtain ⟨q0, q1, q2, q3, q4, q5, q6, q7, q8, g0, g1, g2, g3, g4, g5, g6, g7, g8, gz⟩ := nine_cell HA3.out.p
  have n1 : ¬ w3.heap.size = Q := by have := HA3.out.lt; omega
  have n2 : ¬ Q = w3.heap.size := by omega
  have hfirst : wrap64 (n - (s3.length : Int)) = n - s3.length := wrap_in (by have := HNM.out; have := HL3.out; omega)
  have hw : wrap64 (hv + 1) = hv + 1 := wrap_in (by have := HNM.out; omega)
  go_wp2_with fail
  all_goals (
    clear hfirst hw
    rw [← HXE.out]
    have hl := HL4.out
    rw [HW4.out, HXE.out] at hl
    refine calls_hide (fun W => (∃ A4 c4, LinkSt W w2.heap.size X ⟨e, n, A4, c4, s3, qA3, qc3, q3', hv⟩) ∧ HearAt w W Q R F ⟨e, n, sA, sc, s, qA, qc, q, hv⟩ ⟨pe, pn, false, pa, ⟨fk, fh, fe, ⟨fA, fc, fp⟩, fs⟩⟩ zeroF ∧ X < W.heap.size) ⟨?_, HA3.out.later (bAlloc (Below.refl _ _) _), by have := HXE.out; simp; omega⟩ ?_
    · rw [HXE.out]
      exact ⟨_, _, hl⟩
    clear hl q0 q1 q2 q3 q4 q5 q6 q7 q8 g0 g1 g2 g3 g4 g5 g6 g7 g8 gz p0 p1 p2 p3 p4 v0 v1 v2 v3 v4 pz
    rintro W5 ⟨⟨A4, c4, hL5⟩, hA5, hz5⟩
    have HL5 := Lib.hid hL5
    have HA5 := Lib.hid hA5
    clear hL5 hA5
    have HFL := Lib.hid (fill_c W5 w2.heap.size X ⟨e, n, A4, c4, s3, qA3, qc3, q3', hv⟩ HL5.out (by have := HBA.out; omega) (by have := HNM.out; have := HL3.out; dsimp only; omega) (by have := HNM.out; dsimp only; omega) (by have := HNM.out; have := HLQ.out; dsimp only; omega) ⟨fun f hf => HSM.out.1 f (hf), HSM.out.2⟩)
    rw [show LinkV.d ⟨e, n, A4, c4, s3, qA3, qc3, q3', hv⟩ = D by rw [HDD.out]; simp only [LinkV.d, H3.out, H4.out]] at HFL
    refine HFL.out.mono ?_
    rintro r w6 ⟨l5, A5, c5, L5, rfl, hd5, hp5, hL6, ho6, hu6, hsp, wm, hLm, hbm, hom, hzm⟩
    have HSP := Lib.hid hsp
    have HA6 := Lib.hid (HA5.out.upon (by have := HO.out; have := HBA.out; omega) hu6)
    have HL6 := Lib.hid hL6
    have HD5 := Lib.hid hd5
    have HP5 := Lib.hid hp5
    have HO6 := Lib.hid ho6
    have HLM := Lib.hid hLm
    have HBM := Lib.hid hbm
    have HOM := Lib.hid hom
    have hz6 := hu6.size
    clear hd5 hp5 hL6 ho6 hu6 hLm hbm hom HFL hsp
    obtain ⟨e5, n5, sA5, sc5, s5, qA5, qc5, q5, h5⟩ := l5
    obtain ⟨x0, x1, x2, x3, x4, y0, y1, y2, y3, y4, hxz⟩ := five_cell HL6.out.at_
    obtain ⟨q0, q1, q2, q3, q4, q5', q6, q7, q8, _, _, _, _, _, _, _, _, _, gz⟩ := nine_cell HA6.out.p
    obtain ⟨r0, r1, r2, r3, r4, j0, j1, j2, j3, j4, rz⟩ := five_cell HA6.out.r
    obtain ⟨t0, t1, t2, t3, t4, k0, k1, k2, k3, k4, tz⟩ := five_cell HA6.out.f
    (try dsimp only at x0 x1 x2 x3 x4)
    have z1 : ¬ R = X := by have := HO.out; have := HBA.out; omega
    have z2 : ¬ X = R := by omega
    have z3 : ¬ F = X := by have := HO.out; have := HBA.out; omega
    have z4 : ¬ X = F := by omega
    have HB0 := Lib.hid (bare_c w6 ⟨e5, n5, sA5, sc5, s5, qA5, qc5, q5, h5⟩)
    unfold bareD RetPacket at HB0
    dsimp only at HB0
    go_wp2_with fail
    refine HB0.out.mono ?_
    rintro r w7 ⟨A7, c7, rfl, ho7, hb7⟩
    have HX7 := Lib.hid ((HOM.out.later hb7).row.alloc (.cells #[.int .i64 e5, .int .i64 0, .bool true, .int .i64 h5, .int .i64 0, .int .i64 0, .int .i64 0, .slice A7 0 c7, .string ⟨#[]⟩] 39))
    have HO7 := Lib.hid ho7
    have HB7 := Lib.hid hb7
    have hz7 := hb7.size
    have HLEN := Lib.hid (show L5.length ≤ 8 from by have h1 := congrArg List.length HP5.out; have h2 := fillP_len D; rw [List.length_map, h2.1] at h1; omega)
    have hlen := HLEN.out
    have hzmw := HBM.out.size
    clear ho7 hb7 HB0
    go_wp2_with (refine stop_append rfl ?_)
    refine ⟨?_⟩
    refine wpList_append_sl _ rfl _ _ 41 rfl wm.heap.size 39 i0 (.agg #[.int .i64 0, .int .i64 0, .bool false, .int .i64 0, .int .i64 0, .int .i64 0, .int .i64 0, .slice none 0 0, .string ⟨#[]⟩]) 9 96 Tryd.underlying41 hi0 hz0 hz1 hz2 rfl (by decide) _ _ _ rfl HX7.out (fun _ => True) _ _ _ _ rfl (row_top (by rfl) (by simp)) ?c1 ?c2 ?c3 ?c4 ?_
    case c1 => intro u hu; simp at hu; rcases hu with rfl | rfl | rfl | rfl | rfl | rfl | rfl | rfl | rfl <;> rfl
    case c2 => unfold maxLen; omega
    case c3 => omega
    case c4 => simp; omega
    intro A8 c8 w8 hown' hgrow hat
    have hP := RowOwn.push (f := PacketV.cells) (op := PacketV.op) (x := ⟨e5, 0, true, h5, ⟨0, 0, 0, ⟨A7, c7, []⟩, ⟨#[]⟩⟩⟩) HOM.out hzmw HB7.out HO7.out hgrow hown' hat
    have hF := push_frame HBM.out HB7.out hgrow (fun g hg => (HOM.out.row.lt g hg).1)
    have hU : Upon w2.heap.size X w6 w8 := (Upon.of_below (bAlloc HB7.out _) (by have := HBA.out; omega)).trans (Upon.grown hgrow (by have := HBA.out; simp; omega) (fun g hg => by have := (HOM.out.row.lt g hg).1; have := HBA.out; omega))
    have HA8 := Lib.hid (HA6.out.upon (by have := HO.out; have := HBA.out; omega) hU)
    have HL8 := Lib.hid (HLM.out.later hF)
    have HP8 := Lib.hid hP
    have HD8 := Lib.hid (show (L5 ++ [(⟨e5, 0, true, h5, ⟨0, 0, 0, ⟨A7, c7, []⟩, ⟨#[]⟩⟩⟩ : PacketV)]).map PacketV.d = fillP D ++ [bareX D] by
      have h1 := HD5.out
      simp only [LinkV.d, fillL, LinkD.mk.injEq] at h1
      rw [List.map_append, HP5.out]
      unfold bareX
      rw [← h1.1, ← h1.2.2.2.2]
      rfl)
    have hz8 := hU.size
    have HZ8 := Lib.hid hF.size
    clear hown' hgrow hat hP hF hU x0 x1 x2 x3 x4 y0 y1 y2 y3 y4 hxz r0 r1 r2 r3 r4 j0 j1 j2 j3 j4 rz t0 t1 t2 t3 t4 k0 k1 k2 k3 k4 tz q0 q1 q2 q3 q4 q5' q6 q7 q8 gz
    obtain ⟨x0, x1, x2, x3, x4, y0, y1, y2, y3, y4, hxz⟩ := five_cell HL8.out.at_
    obtain ⟨r0, r1, r2, r3, r4, j0, j1, j2, j3, j4, rz⟩ := five_cell HA8.out.r
    obtain ⟨t0, t1, t2, t3, t4, k0, k1, k2, k3, k4, tz⟩ := five_cell HA8.out.f
    (try dsimp only at x0 x1 x2 x3 x4 t0 t1 t2 t3 t4)
    go_wp2_with fail
    go_region
    go_wp2_with fail
    obtain ⟨W9, hW9⟩ : ∃ W9, W9 = ((((((((((w8).setCell ⟨R, 0, none⟩ (.int .i64 e5)).setCell ⟨R, 1, none⟩ (.int .i64 n5)).setCell ⟨R, 2, none⟩ (.slice sA5 s5.length sc5)).setCell ⟨R, 3, none⟩ (.slice qA5 q5.length qc5)).setCell ⟨R, 4, none⟩ (.int .i64 h5)).setCell ⟨F, 0, none⟩ (.int .i64 0)).setCell ⟨F, 1, none⟩ (.int .i64 0)).setCell ⟨F, 2, none⟩ (.int .i64 0)).setCell ⟨F, 3, none⟩ (.slice none 0 0)).setCell ⟨F, 4, none⟩ (.string ⟨#[]⟩) := ⟨_, rfl⟩
    rw [← hW9]
    obtain ⟨WZ, hWZ⟩ : ∃ WZ, WZ = W9.drew := ⟨_, rfl⟩
    rw [← hWZ]
    obtain ⟨a1, a2, a3⟩ := drew_sets (ten_sets HA8.out.r HA8.out.f m1 hW9) hWZ
    have hB9 := HA8.out.b.trans (a3.below (base := w.heap.size) (by have := HO.out; omega) (by have := HO.out; omega) HA8.out.b.size)
    clear hW9 hWZ r0 r1 r2 r3 r4 t0 t1 t2 t3 t4
    obtain ⟨r0, r1, r2, r3, r4, _, _, _, _, _, _⟩ := five_cell a1
    obtain ⟨t0, t1, t2, t3, t4, _, _, _, _, _, _⟩ := five_cell a2
    refine bodyPost_ret (v := .tuple #[(⟨e5, n5, sA5, sc5, s5, qA5, qc5, q5, h5⟩ : LinkV).val, frameV 0 0 0 none 0 0 ⟨#[]⟩, .bool false, .slice A8 (L5.length + 1) c8, .int .i64 0]) (by simp [results, Tryd.results21, go_sem, r0, r1, r2, r3, r4, t0, t1, t2, t3, t4]) rfl ?_
    exact ⟨⟨e5, n5, sA5, sc5, s5, qA5, qc5, q5, h5⟩, none, 0, A8, c8, L5 ++ [⟨e5, 0, true, h5, ⟨0, 0, 0, ⟨A7, c7, []⟩, ⟨#[]⟩⟩⟩], by simp, HD5.out, HD8.out, HL8.out.in_two a3 (by have := HBA.out; have := HO.out; omega) (by have := HBA.out; omega), Sl.nil, PacketsOwn.in_two HP8.out a3 (by have := HBA.out; have := HO.out; omega) (by have := HBA.out; omega), hB9⟩)
end Go.Proofs.YtgcapkkgminidaaDoor
namespace Go.Proofs.YtgcapkkgminidaaDoor
open Go.ChangeShapes Go.WideShapes Go.ChangeAt Go.RowKit
set_option maxRecDepth 100000
set_option maxHeartbeats 2000000 in
theorem Hear_ot (w : World) (l : LinkV) (p : PacketV) (hT : Tabs w) (hi : l.In w) (hm : l.Small) (hf : OpIn (· < w.heap.size) w p.f.o.A p.f.o.ps) (hfm : p.f.Small) (hk : linkMay l) (he : packetFault p.d = 0) (h0 : l.e ≠ 0) (h1 : p.ep = l.e) (hA : p.ak < l.n - l.s.length) (hb : p.b = false) (hn : p.nu = l.h + 1) (hh : l.h < 1048576) :
    Calls Tryd.prog 21 #[l.val, packetV p.ep p.nu p.b p.ak p.f.k p.f.h p.f.e p.f.o.A p.f.o.ps.length p.f.o.c p.f.s] w (RetHear w (fillL ⟨l.e, l.n, (l.s.map FrameV.d), l.q.map FrameV.d, (l.h + 1)⟩) p.f.d true (fillP ⟨l.e, l.n, (l.s.map FrameV.d), l.q.map FrameV.d, (l.h + 1)⟩ ++ [bareX ⟨l.e, l.n, (l.s.map FrameV.d), l.q.map FrameV.d, (l.h + 1)⟩]) 0) := by
  have HC := Lib.hid (fun W hT hi => LinkCheck_c W l hT hi hm)
  rw [if_pos hk] at HC
  have HF := Lib.hid (fun W hT hs => CheckPacket_c W p.ep p.nu p.b p.ak p.f.k p.f.h p.f.e p.f.o.A p.f.o.c p.f.o.ps p.f.s hT hs hfm.op.len hfm.op.text hfm.text)
  rw [show packetFault ⟨p.ep, p.nu, p.b, p.ak, ⟨p.f.k, p.f.h, p.f.e, p.f.o.ps, p.f.s⟩⟩ = 0 from he] at HF
  have HOP := Lib.hid hf
  have HOW := Lib.hid (fun W hi => linkOwn_c W l hi hm)
  have HM := Lib.hid hm
  have HK := Lib.hid hk
  have hpa : 0 ≤ p.ak ∧ p.ak ≤ 1048576 := by
    unfold packetFault at he
    by_cases g : (p.ep < 0 ∨ 1048576 < p.ep) ∨ (p.nu < 0 ∨ 1048576 < p.nu) ∨ (p.ak < 0 ∨ 1048576 < p.ak)
    · rw [if_pos g] at he
      cases he
    · omega
  have HCF := Lib.hid (fun W hs => copyFrame_c W p.f.k p.f.h p.f.e p.f.o.A p.f.o.c p.f.o.ps p.f.s hs hfm.op.len)
  obtain ⟨i0, hi0, hz0, hz1, hz2⟩ := info_parts infoPacket
  have HI := Lib.hid hi
  have HT := Lib.hid hT
  obtain ⟨e, n, sA, sc, s, qA, qc, q, hv⟩ := l
  obtain ⟨pe, pn, pb, pa, ⟨fk, fh, fe, ⟨fA, fc, fp⟩, fs⟩⟩ := p
  obtain ⟨D, hD⟩ : ∃ D : LinkD, D = ⟨e, n, (s.map FrameV.d), q.map FrameV.d, (hv + 1)⟩ := ⟨_, rfl⟩
  dsimp only at *
  rw [← hD]
  have HDD := Lib.hid hD
  have e0 : (e == 0) = false := by simpa using h0
  have e1 : (pe != e) = false := by simpa using h1
  clear hD h0 h1
  subst hb
  subst hn
  obtain ⟨W1, hW1⟩ : ∃ W1, W1 = w.alloc (.cells #[.int .i64 e, .int .i64 n, .slice sA s.length sc, .slice qA q.length qc, .int .i64 hv] 35) := ⟨_, rfl⟩
  obtain ⟨W2, hW2⟩ : ∃ W2, W2 = W1.alloc (.cells #[.int .i64 pe, .int .i64 (hv + 1), .bool false, .int .i64 pa, .int .i64 fk, .int .i64 fh, .int .i64 fe, .slice fA fp.length fc, .string fs] 39) := ⟨_, rfl⟩
  obtain ⟨W3, hW3⟩ : ∃ W3, W3 = W2.alloc (.cells #[.int .i64 0, .int .i64 0, .slice none 0 0, .slice none 0 0, .int .i64 0] 35) := ⟨_, rfl⟩
  obtain ⟨WA, hWA⟩ : ∃ WA, WA = W3.alloc (.cells #[.int .i64 0, .int .i64 0, .int .i64 0, .slice none 0 0, .string ⟨#[]⟩] 37) := ⟨_, rfl⟩
  have g1 : W1.heap.size = w.heap.size + 1 := by rw [hW1]; simp
  have g2 : W2.heap.size = W1.heap.size + 1 := by rw [hW2]; simp
  have g3 : W3.heap.size = W2.heap.size + 1 := by rw [hW3]; simp
  have g4 : WA.heap.size = W3.heap.size + 1 := by rw [hWA]; simp
  have k1 : Below w.heap.size w W1 := by rw [hW1]; exact bAlloc (Below.refl _ _) _
  have k2 : Below W1.heap.size W1 W2 := by rw [hW2]; exact bAlloc (Below.refl _ _) _
  have k3 : Below W2.heap.size W2 W3 := by rw [hW3]; exact bAlloc (Below.refl _ _) _
  have k4 : Below W3.heap.size W3 WA := by rw [hWA]; exact bAlloc (Below.refl _ _) _
  have k34 := bThen k3 k4
  have k24 := bThen k2 k34
  have HA0 := Lib.hid (show HearAt w WA W1.heap.size W2.heap.size W3.heap.size ⟨e, n, sA, sc, s, qA, qc, q, hv⟩ ⟨pe, hv + 1, false, pa, ⟨fk, fh, fe, ⟨fA, fc, fp⟩, fs⟩⟩ zeroF from
    ⟨(k24.block _ (by omega)).trans (by rw [hW1]; exact heap_alloc_new _ _), (k34.block _ (by omega)).trans (by rw [hW2]; exact heap_alloc_new _ _), (k4.block _ (by omega)).trans (by rw [hW3]; exact heap_alloc_new _ _), by rw [hWA]; exact heap_alloc_new _ _, bThen k1 k24⟩)
  have HW := Lib.hid (show (((w.alloc (.cells #[.int .i64 e, .int .i64 n, .slice sA s.length sc, .slice qA q.length qc, .int .i64 hv] 35)).alloc (.cells #[.int .i64 pe, .int .i64 (hv + 1), .bool false, .int .i64 pa, .int .i64 fk, .int .i64 fh, .int .i64 fe, .slice fA fp.length fc, .string fs] 39)).alloc (.cells #[.int .i64 0, .int .i64 0, .slice none 0 0, .slice none 0 0, .int .i64 0] 35)).alloc (.cells #[.int .i64 0, .int .i64 0, .int .i64 0, .slice none 0 0, .string ⟨#[]⟩] 37) = WA by rw [hWA, hW3, hW2, hW1])
  obtain ⟨Q, hQ⟩ : ∃ Q, Q = W1.heap.size := ⟨_, rfl⟩
  obtain ⟨R, hR⟩ : ∃ R, R = W2.heap.size := ⟨_, rfl⟩
  obtain ⟨F, hF⟩ : ∃ F, F = W3.heap.size := ⟨_, rfl⟩
  have HE1 := Lib.hid (show w.heap.size + 1 + 1 + 1 = F by omega)
  have HE2 := Lib.hid (show w.heap.size + 1 + 1 = R by omega)
  have HE3 := Lib.hid (show w.heap.size + 1 = Q by omega)
  have hord : w.heap.size < Q ∧ Q < R ∧ R < F := by omega
  have HO := Lib.hid hord
  have hFA : F < WA.heap.size := by omega
  have m1 : ¬ R = F := by omega
  have m2 : ¬ F = R := by omega
  rw [← hQ, ← hR, ← hF] at HA0
  clear hQ hR hF k1 k2 k3 k4 k34 k24 g1 g2 g3 g4 hWA hW3 hW2 hW1 hord hi hT hm hk hf hfm he
  go_enter Tryd.func21, Tryd.ntmps21
  go_wp2_with fail
  rw [HW.out, HE1.out, HE2.out, HE3.out]
  refine (HC.out _ (HT.out.later HA0.out.b) (HI.out.later HA0.out.b)).mono ?_
  rintro r w1 ⟨rfl, hb1⟩
  have HA1 := Lib.hid (HA0.out.later hb1)
  clear hb1
  obtain ⟨p0, p1, p2, p3, p4, v0, v1, v2, v3, v4, pz⟩ := five_cell HA1.out.l
  obtain ⟨q0, q1, q2, q3, q4, q5, q6, q7, q8, g0, g1, g2, g3, g4, g5, g6, g7, g8, gz⟩ := nine_cell HA1.out.p
  obtain ⟨r0, r1, r2, r3, r4, j0, j1, j2, j3, j4, rz⟩ := five_cell HA1.out.r
  obtain ⟨t0, t1, t2, t3, t4, k0, k1, k2, k3, k4, tz⟩ := five_cell HA1.out.f
  go_wp2_with fail
  refine (HF.out _ (HT.out.later HA1.out.b) (Sl.later HOP.out HA1.out.b)).mono ?_
  rintro r w2 ⟨rfl, hb2⟩
  have HA2 := Lib.hid (HA1.out.later hb2)
  clear hb2 p0 p1 p2 p3 p4 v0 v1 v2 v3 v4 pz q0 q1 q2 q3 q4 q5 q6 q7 q8 g0 g1 g2 g3 g4 g5 g6 g7 g8 gz r0 r1 r2 r3 r4 j0 j1 j2 j3 j4 rz t0 t1 t2 t3 t4 k0 k1 k2 k3 k4 tz
  obtain ⟨p0, p1, p2, p3, p4, v0, v1, v2, v3, v4, pz⟩ := five_cell HA2.out.l
  obtain ⟨q0, q1, q2, q3, q4, q5, q6, q7, q8, g0, g1, g2, g3, g4, g5, g6, g7, g8, gz⟩ := nine_cell HA2.out.p
  obtain ⟨r0, r1, r2, r3, r4, j0, j1, j2, j3, j4, rz⟩ := five_cell HA2.out.r
  obtain ⟨t0, t1, t2, t3, t4, k0, k1, k2, k3, k4, tz⟩ := five_cell HA2.out.f
  go_wp2_with fail
  refine (HOW.out _ (HI.out.later HA2.out.b)).mono ?_
  rintro r w3 ⟨⟨e3, n3, sA3, sc3, s3, qA3, qc3, q3', h3⟩, mid, rfl, hd3, hmid, hS3, hQ3, hb3⟩
  have hd3' := hd3
  simp only [LinkV.d, LinkD.mk.injEq] at hd3'
  obtain ⟨d1, d2, d3, d4, d5⟩ := hd3'
  have d1 := d1.symm
  have d2 := d2.symm
  have d5 := d5.symm
  subst d1 d2 d5
  have hl3 : s3.length = s.length := by have := congrArg List.length d3; simpa using this
  have hl4 : q3'.length = q.length := by have := congrArg List.length d4; simpa using this
  have hz3 := hb3.size
  obtain ⟨W4, hW4⟩ : ∃ W4, W4 = w3.alloc (.cells #[.int .i64 e, .int .i64 n, .slice sA3 s3.length sc3, .slice qA3 q3'.length qc3, .int .i64 hv] 35) := ⟨_, rfl⟩
  have hb4 : Below w3.heap.size w3 W4 := by rw [hW4]; exact bAlloc (Below.refl _ _) _
  have hz4 : W4.heap.size = w3.heap.size + 1 := by rw [hW4]; simp
  have hX4 : LinkAt W4 w3.heap.size ⟨e, n, sA3, sc3, s3, qA3, qc3, q3', hv⟩ := by rw [hW4]; exact heap_alloc_new _ _
  have HL4 := LinkSt.plain (l := ⟨e, n, sA3, sc3, s3, qA3, qc3, q3', hv⟩) hS3 hQ3 hmid hb4 hX4
  have HA3 := Lib.hid (HA2.out.later hb3)
  have HA4 := Lib.hid (HA2.out.later (bThen hb3 hb4))
  obtain ⟨X, hX⟩ : ∃ X, X = w3.heap.size := ⟨_, rfl⟩
  rw [← hX] at HL4
  have hba : F < w2.heap.size ∧ w2.heap.size ≤ X ∧ X < W4.heap.size := ⟨HA2.out.lt.2.2.2, by omega, by omega⟩
  have HBA := Lib.hid hba
  have HNM := Lib.hid (show ((s.length : Int) < n ∧ n ≤ 1048576) ∧ s.length ≤ 8 ∧ q.length ≤ 1048576 ∧ (0 ≤ hv ∧ hv ≤ 1048576) from ⟨⟨HK.out.2.1.2.1, HK.out.1.2.1.2⟩, HK.out.2.1.1, HM.out.ql, HK.out.1.2.2⟩)
  have HSM := Lib.hid (show (∀ f ∈ s3, f.o.ps.length ≤ 1048576) ∧ ∀ f ∈ q3', f.o.ps.length ≤ 1048576 from
    ⟨fun f hf => (small_d d3 HM.out.s f hf).op.len, fun f hf => (small_d d4 HM.out.q f hf).op.len⟩)
  have H3 := Lib.hid d3
  have H4 := Lib.hid d4
  have HL3 := Lib.hid hl3
  have HLQ := Lib.hid hl4
  have HXE := Lib.hid hX
  have HW4 := Lib.hid hW4
  have a1 : decide (n - (s3.length : Int) ≤ pa) = false := by have := hA; simp; omega
  clear hA
  have b2 : decide (hv < 1048576) = true := by simpa using hh
  clear hh
  have HL4 := Lib.hid HL4
  clear hX hX4 hS3 hQ3 hmid hb3 hb4 hz4 hd3 d3 d4 hl3 hl4 hW4 p0 p1 p2 p3 p4 v0 v1 v2 v3 v4 pz q0 q1 q2 q3 q4 q5 q6 q7 q8 g0 g1 g2 g3 g4 g5 g6 g7 g8 gz r0 r1 r2 r3 r4 j0 j1 j2 j3 j4 rz t0 t1 t2 t3 t4 k0 k1 k2 k3 k4 tz
  obtain ⟨p0, p1, p2, p3, p4, v0, v1, v2, v3, v4, pz⟩ := five_cell HA3.out.l
  obtain ⟨q0, q1, q2, q3, q4, q5, q6, q7, q8, g0, g1, g2, g3, g4, g5, g6, g7, g8, gz⟩ := nine_cell HA3.out.p
  have n1 : ¬ w3.heap.size = Q := by have := HA3.out.lt; omega
  have n2 : ¬ Q = w3.heap.size := by omega
  have hfirst : wrap64 (n - (s3.length : Int)) = n - s3.length := wrap_in (by have := HNM.out; have := HL3.out; omega)
  have hw : wrap64 (hv + 1) = hv + 1 := wrap_in (by have := HNM.out; omega)
  go_wp2_with fail
  all_goals (
    clear hfirst hw
    rw [← HXE.out]
    have hl := HL4.out
    rw [HW4.out, HXE.out] at hl
    refine calls_hide (fun W => (∃ A4 c4, LinkSt W w2.heap.size X ⟨e, n, A4, c4, s3, qA3, qc3, q3', hv + 1⟩) ∧ HearAt w W Q R F ⟨e, n, sA, sc, s, qA, qc, q, hv⟩ ⟨pe, hv + 1, false, pa, ⟨fk, fh, fe, ⟨fA, fc, fp⟩, fs⟩⟩ zeroF ∧ X < W.heap.size) ⟨?_, HA3.out.later (bAlloc (Below.refl _ _) _), by have := HXE.out; simp; omega⟩ ?_
    · rw [HXE.out]
      exact ⟨_, _, hl.heardA (hv + 1)⟩
    clear hl q0 q1 q2 q3 q4 q5 q6 q7 q8 g0 g1 g2 g3 g4 g5 g6 g7 g8 gz p0 p1 p2 p3 p4 v0 v1 v2 v3 v4 pz
    rintro W5 ⟨⟨A4, c4, hL5⟩, hA5, hz5⟩
    have HL5 := Lib.hid hL5
    have HA5 := Lib.hid hA5
    clear hL5 hA5
    refine (HCF.out W5 (Sl.later HOP.out HA5.out.b)).mono ?_
    rintro r wf ⟨A2, c2, rfl, ho2, hb2⟩
    have HAf := Lib.hid (HA5.out.later hb2)
    have HLf := Lib.hid (HL5.out.later hb2)
    have HO2 := Lib.hid ho2
    have hzf := hb2.size
    clear ho2 hb2
    obtain ⟨t0, t1, t2, t3, t4, k0, k1, k2, k3, k4, tz⟩ := five_cell HAf.out.f
    go_wp2_with fail
    obtain ⟨WF, hWF⟩ : ∃ WF, WF = (((((wf.setCell ⟨F, 0, none⟩ (.int .i64 fk)).setCell ⟨F, 1, none⟩ (.int .i64 fh)).setCell ⟨F, 2, none⟩ (.int .i64 fe)).setCell ⟨F, 3, none⟩ (.slice A2 fp.length c2)).setCell ⟨F, 4, none⟩ (.string fs)) := ⟨_, rfl⟩
    rw [← hWF]
    obtain ⟨hAF, hOF⟩ := HAf.out.told HO.out ⟨fk, fh, fe, ⟨A2, c2, fp⟩, fs⟩ hWF
    have HAF := Lib.hid hAF
    have HLF := Lib.hid (HLf.out.low hOF (by have := HBA.out; omega) (by have := HO.out; have := HBA.out; omega))
    have HOF := Lib.hid (HO2.out.moved (S' := fun b => W5.heap.size ≤ b ∧ b < WF.heap.size) (w' := WF) fun b hb => ⟨⟨hb.1, Nat.lt_of_lt_of_le hb.2 hOF.size⟩, hOF.block b hb.2 (by have := HO.out; have := HBA.out; omega)⟩)
    have hzF := hOF.size
    clear hWF hAF hOF t0 t1 t2 t3 t4 k0 k1 k2 k3 k4 tz HA5
    have HFL := Lib.hid (fill_c WF w2.heap.size X ⟨e, n, A4, c4, s3, qA3, qc3, q3', hv + 1⟩ HLF.out (by have := HBA.out; omega) (by have := HNM.out; have := HL3.out; dsimp only; omega) (by have := HNM.out; dsimp only; omega) (by have := HNM.out; have := HLQ.out; dsimp only; omega) ⟨fun f hf => HSM.out.1 f (hf), HSM.out.2⟩)
    rw [show LinkV.d ⟨e, n, A4, c4, s3, qA3, qc3, q3', hv + 1⟩ = D by rw [HDD.out]; simp only [LinkV.d, H3.out, H4.out]] at HFL
    refine HFL.out.mono ?_
    rintro r w6 ⟨l5, A5, c5, L5, rfl, hd5, hp5, hL6, ho6, hu6, hsp, wm, hLm, hbm, hom, hzm⟩
    have HSP := Lib.hid hsp
    have HA6 := Lib.hid (HAF.out.upon (by have := HO.out; have := HBA.out; omega) hu6)
    have HL6 := Lib.hid hL6
    have HD5 := Lib.hid hd5
    have HP5 := Lib.hid hp5
    have HO6 := Lib.hid ho6
    have HLM := Lib.hid hLm
    have HBM := Lib.hid hbm
    have HOM := Lib.hid hom
    have hz6 := hu6.size
    clear hd5 hp5 hL6 ho6 hu6 hLm hbm hom HFL hsp
    obtain ⟨e5, n5, sA5, sc5, s5, qA5, qc5, q5, h5⟩ := l5
    obtain ⟨x0, x1, x2, x3, x4, y0, y1, y2, y3, y4, hxz⟩ := five_cell HL6.out.at_
    obtain ⟨q0, q1, q2, q3, q4, q5', q6, q7, q8, _, _, _, _, _, _, _, _, _, gz⟩ := nine_cell HA6.out.p
    obtain ⟨r0, r1, r2, r3, r4, j0, j1, j2, j3, j4, rz⟩ := five_cell HA6.out.r
    obtain ⟨t0, t1, t2, t3, t4, k0, k1, k2, k3, k4, tz⟩ := five_cell HA6.out.f
    (try dsimp only at x0 x1 x2 x3 x4)
    have z1 : ¬ R = X := by have := HO.out; have := HBA.out; omega
    have z2 : ¬ X = R := by omega
    have z3 : ¬ F = X := by have := HO.out; have := HBA.out; omega
    have z4 : ¬ X = F := by omega
    have HB0 := Lib.hid (bare_c w6 ⟨e5, n5, sA5, sc5, s5, qA5, qc5, q5, h5⟩)
    unfold bareD RetPacket at HB0
    dsimp only at HB0
    go_wp2_with fail
    refine HB0.out.mono ?_
    rintro r w7 ⟨A7, c7, rfl, ho7, hb7⟩
    have HX7 := Lib.hid ((HOM.out.later hb7).row.alloc (.cells #[.int .i64 e5, .int .i64 0, .bool true, .int .i64 h5, .int .i64 0, .int .i64 0, .int .i64 0, .slice A7 0 c7, .string ⟨#[]⟩] 39))
    have HO7 := Lib.hid ho7
    have HB7 := Lib.hid hb7
    have hz7 := hb7.size
    have HLEN := Lib.hid (show L5.length ≤ 8 from by have h1 := congrArg List.length HP5.out; have h2 := fillP_len D; rw [List.length_map, h2.1] at h1; omega)
    have hlen := HLEN.out
    have hzmw := HBM.out.size
    clear ho7 hb7 HB0
    go_wp2_with (refine stop_append rfl ?_)
    refine ⟨?_⟩
    refine wpList_append_sl _ rfl _ _ 41 rfl wm.heap.size 39 i0 (.agg #[.int .i64 0, .int .i64 0, .bool false, .int .i64 0, .int .i64 0, .int .i64 0, .int .i64 0, .slice none 0 0, .string ⟨#[]⟩]) 9 96 Tryd.underlying41 hi0 hz0 hz1 hz2 rfl (by decide) _ _ _ rfl HX7.out (fun _ => True) _ _ _ _ rfl (row_top (by rfl) (by simp)) ?c1 ?c2 ?c3 ?c4 ?_
    case c1 => intro u hu; simp at hu; rcases hu with rfl | rfl | rfl | rfl | rfl | rfl | rfl | rfl | rfl <;> rfl
    case c2 => unfold maxLen; omega
    case c3 => omega
    case c4 => simp; omega
    intro A8 c8 w8 hown' hgrow hat
    have hP := RowOwn.push (f := PacketV.cells) (op := PacketV.op) (x := ⟨e5, 0, true, h5, ⟨0, 0, 0, ⟨A7, c7, []⟩, ⟨#[]⟩⟩⟩) HOM.out hzmw HB7.out HO7.out hgrow hown' hat
    have hF := push_frame HBM.out HB7.out hgrow (fun g hg => (HOM.out.row.lt g hg).1)
    have hU : Upon w2.heap.size X w6 w8 := (Upon.of_below (bAlloc HB7.out _) (by have := HBA.out; omega)).trans (Upon.grown hgrow (by have := HBA.out; simp; omega) (fun g hg => by have := (HOM.out.row.lt g hg).1; have := HBA.out; omega))
    have HA8 := Lib.hid (HA6.out.upon (by have := HO.out; have := HBA.out; omega) hU)
    have HL8 := Lib.hid (HLM.out.later hF)
    have HP8 := Lib.hid hP
    have HF8 := Lib.hid (show OpIn (fun b => w2.heap.size ≤ b ∧ b < w8.heap.size) w8 A2 fp from HOF.out.moved fun b hb => by
      have hs1 := hF.size
      have hs2 := hU.size
      have hb6 := HSP.out b hb.2 (by omega) (fun e1 => by have := (HLF.out.own.lt e1).2; have := HL5.out.own.lt (g := b) e1; omega)
      exact ⟨⟨by have := HBA.out; omega, by omega⟩, ((hgrow.block b (by simp; omega) (fun e1 => by have := (HOM.out.row.lt b e1.symm).1; omega)).trans ((bAlloc HB7.out _).block b (by omega))).trans hb6⟩)
    have HD8 := Lib.hid (show (L5 ++ [(⟨e5, 0, true, h5, ⟨0, 0, 0, ⟨A7, c7, []⟩, ⟨#[]⟩⟩⟩ : PacketV)]).map PacketV.d = fillP D ++ [bareX D] by
      have h1 := HD5.out
      simp only [LinkV.d, fillL, LinkD.mk.injEq] at h1
      rw [List.map_append, HP5.out]
      unfold bareX
      rw [← h1.1, ← h1.2.2.2.2]
      rfl)
    have hz8 := hU.size
    have HZ8 := Lib.hid hF.size
    clear hown' hgrow hat hP hF hU x0 x1 x2 x3 x4 y0 y1 y2 y3 y4 hxz r0 r1 r2 r3 r4 j0 j1 j2 j3 j4 rz t0 t1 t2 t3 t4 k0 k1 k2 k3 k4 tz q0 q1 q2 q3 q4 q5' q6 q7 q8 gz
    obtain ⟨x0, x1, x2, x3, x4, y0, y1, y2, y3, y4, hxz⟩ := five_cell HL8.out.at_
    obtain ⟨r0, r1, r2, r3, r4, j0, j1, j2, j3, j4, rz⟩ := five_cell HA8.out.r
    obtain ⟨t0, t1, t2, t3, t4, k0, k1, k2, k3, k4, tz⟩ := five_cell HA8.out.f
    (try dsimp only at x0 x1 x2 x3 x4 t0 t1 t2 t3 t4)
    go_wp2_with fail
    go_region
    go_wp2_with fail
    obtain ⟨W9, hW9⟩ : ∃ W9, W9 = ((((((((((w8).setCell ⟨R, 0, none⟩ (.int .i64 e5)).setCell ⟨R, 1, none⟩ (.int .i64 n5)).setCell ⟨R, 2, none⟩ (.slice sA5 s5.length sc5)).setCell ⟨R, 3, none⟩ (.slice qA5 q5.length qc5)).setCell ⟨R, 4, none⟩ (.int .i64 h5)).setCell ⟨F, 0, none⟩ (.int .i64 fk)).setCell ⟨F, 1, none⟩ (.int .i64 fh)).setCell ⟨F, 2, none⟩ (.int .i64 fe)).setCell ⟨F, 3, none⟩ (.slice A2 fp.length c2)).setCell ⟨F, 4, none⟩ (.string fs) := ⟨_, rfl⟩
    rw [← hW9]
    obtain ⟨WZ, hWZ⟩ : ∃ WZ, WZ = W9.drew := ⟨_, rfl⟩
    rw [← hWZ]
    obtain ⟨a1, a2, a3⟩ := drew_sets (ten_sets HA8.out.r HA8.out.f m1 hW9) hWZ
    have hB9 := HA8.out.b.trans (a3.below (base := w.heap.size) (by have := HO.out; omega) (by have := HO.out; omega) HA8.out.b.size)
    clear hW9 hWZ r0 r1 r2 r3 r4 t0 t1 t2 t3 t4
    obtain ⟨r0, r1, r2, r3, r4, _, _, _, _, _, _⟩ := five_cell a1
    obtain ⟨t0, t1, t2, t3, t4, _, _, _, _, _, _⟩ := five_cell a2
    refine bodyPost_ret (v := .tuple #[(⟨e5, n5, sA5, sc5, s5, qA5, qc5, q5, h5⟩ : LinkV).val, frameV fk fh fe A2 fp.length c2 fs, .bool true, .slice A8 (L5.length + 1) c8, .int .i64 0]) (by simp [results, Tryd.results21, go_sem, r0, r1, r2, r3, r4, t0, t1, t2, t3, t4]) rfl ?_
    exact ⟨⟨e5, n5, sA5, sc5, s5, qA5, qc5, q5, h5⟩, A2, c2, A8, c8, L5 ++ [⟨e5, 0, true, h5, ⟨0, 0, 0, ⟨A7, c7, []⟩, ⟨#[]⟩⟩⟩], by simp, HD5.out, HD8.out, HL8.out.in_two a3 (by have := HBA.out; have := HO.out; omega) (by have := HBA.out; omega), (HF8.out.moved fun b hb => ⟨Nat.lt_of_lt_of_le hb.2 a3.size, a3.block b hb.2 (by have := HBA.out; have := HO.out; omega) (by have := HBA.out; omega)⟩), PacketsOwn.in_two HP8.out a3 (by have := HBA.out; have := HO.out; omega) (by have := HBA.out; omega), hB9⟩)
end Go.Proofs.YtgcapkkgminidaaDoor
namespace Go.Proofs.YtgcapkkgminidaaDoor
open Go.ChangeShapes Go.WideShapes Go.ChangeAt Go.RowKit
set_option maxRecDepth 100000
set_option maxHeartbeats 2000000 in
theorem Hear_xt (w : World) (l : LinkV) (p : PacketV) (hT : Tabs w) (hi : l.In w) (hm : l.Small) (hf : OpIn (· < w.heap.size) w p.f.o.A p.f.o.ps) (hfm : p.f.Small) (hk : linkMay l) (he : packetFault p.d = 0) (h0 : l.e ≠ 0) (h1 : p.ep = l.e) (hA : l.n - l.s.length ≤ p.ak ∧ l.n ≤ p.ak) (hb : p.b = false) (hn : p.nu = l.h + 1) (hh : l.h < 1048576) :
    Calls Tryd.prog 21 #[l.val, packetV p.ep p.nu p.b p.ak p.f.k p.f.h p.f.e p.f.o.A p.f.o.ps.length p.f.o.c p.f.s] w (RetHear w (fillL ⟨l.e, l.n, (l.s.map FrameV.d), l.q.map FrameV.d, (l.h + 1)⟩) p.f.d true (fillP ⟨l.e, l.n, (l.s.map FrameV.d), l.q.map FrameV.d, (l.h + 1)⟩ ++ [bareX ⟨l.e, l.n, (l.s.map FrameV.d), l.q.map FrameV.d, (l.h + 1)⟩]) 0) := by
  have HC := Lib.hid (fun W hT hi => LinkCheck_c W l hT hi hm)
  rw [if_pos hk] at HC
  have HF := Lib.hid (fun W hT hs => CheckPacket_c W p.ep p.nu p.b p.ak p.f.k p.f.h p.f.e p.f.o.A p.f.o.c p.f.o.ps p.f.s hT hs hfm.op.len hfm.op.text hfm.text)
  rw [show packetFault ⟨p.ep, p.nu, p.b, p.ak, ⟨p.f.k, p.f.h, p.f.e, p.f.o.ps, p.f.s⟩⟩ = 0 from he] at HF
  have HOP := Lib.hid hf
  have HOW := Lib.hid (fun W hi => linkOwn_c W l hi hm)
  have HM := Lib.hid hm
  have HK := Lib.hid hk
  have hpa : 0 ≤ p.ak ∧ p.ak ≤ 1048576 := by
    unfold packetFault at he
    by_cases g : (p.ep < 0 ∨ 1048576 < p.ep) ∨ (p.nu < 0 ∨ 1048576 < p.nu) ∨ (p.ak < 0 ∨ 1048576 < p.ak)
    · rw [if_pos g] at he
      cases he
    · omega
  have HCF := Lib.hid (fun W hs => copyFrame_c W p.f.k p.f.h p.f.e p.f.o.A p.f.o.c p.f.o.ps p.f.s hs hfm.op.len)
  obtain ⟨i0, hi0, hz0, hz1, hz2⟩ := info_parts infoPacket
  have HI := Lib.hid hi
  have HT := Lib.hid hT
  obtain ⟨e, n, sA, sc, s, qA, qc, q, hv⟩ := l
  obtain ⟨pe, pn, pb, pa, ⟨fk, fh, fe, ⟨fA, fc, fp⟩, fs⟩⟩ := p
  obtain ⟨D, hD⟩ : ∃ D : LinkD, D = ⟨e, n, (s.map FrameV.d), q.map FrameV.d, (hv + 1)⟩ := ⟨_, rfl⟩
  dsimp only at *
  rw [← hD]
  have HDD := Lib.hid hD
  have e0 : (e == 0) = false := by simpa using h0
  have e1 : (pe != e) = false := by simpa using h1
  clear hD h0 h1
  subst hb
  subst hn
  obtain ⟨W1, hW1⟩ : ∃ W1, W1 = w.alloc (.cells #[.int .i64 e, .int .i64 n, .slice sA s.length sc, .slice qA q.length qc, .int .i64 hv] 35) := ⟨_, rfl⟩
  obtain ⟨W2, hW2⟩ : ∃ W2, W2 = W1.alloc (.cells #[.int .i64 pe, .int .i64 (hv + 1), .bool false, .int .i64 pa, .int .i64 fk, .int .i64 fh, .int .i64 fe, .slice fA fp.length fc, .string fs] 39) := ⟨_, rfl⟩
  obtain ⟨W3, hW3⟩ : ∃ W3, W3 = W2.alloc (.cells #[.int .i64 0, .int .i64 0, .slice none 0 0, .slice none 0 0, .int .i64 0] 35) := ⟨_, rfl⟩
  obtain ⟨WA, hWA⟩ : ∃ WA, WA = W3.alloc (.cells #[.int .i64 0, .int .i64 0, .int .i64 0, .slice none 0 0, .string ⟨#[]⟩] 37) := ⟨_, rfl⟩
  have g1 : W1.heap.size = w.heap.size + 1 := by rw [hW1]; simp
  have g2 : W2.heap.size = W1.heap.size + 1 := by rw [hW2]; simp
  have g3 : W3.heap.size = W2.heap.size + 1 := by rw [hW3]; simp
  have g4 : WA.heap.size = W3.heap.size + 1 := by rw [hWA]; simp
  have k1 : Below w.heap.size w W1 := by rw [hW1]; exact bAlloc (Below.refl _ _) _
  have k2 : Below W1.heap.size W1 W2 := by rw [hW2]; exact bAlloc (Below.refl _ _) _
  have k3 : Below W2.heap.size W2 W3 := by rw [hW3]; exact bAlloc (Below.refl _ _) _
  have k4 : Below W3.heap.size W3 WA := by rw [hWA]; exact bAlloc (Below.refl _ _) _
  have k34 := bThen k3 k4
  have k24 := bThen k2 k34
  have HA0 := Lib.hid (show HearAt w WA W1.heap.size W2.heap.size W3.heap.size ⟨e, n, sA, sc, s, qA, qc, q, hv⟩ ⟨pe, hv + 1, false, pa, ⟨fk, fh, fe, ⟨fA, fc, fp⟩, fs⟩⟩ zeroF from
    ⟨(k24.block _ (by omega)).trans (by rw [hW1]; exact heap_alloc_new _ _), (k34.block _ (by omega)).trans (by rw [hW2]; exact heap_alloc_new _ _), (k4.block _ (by omega)).trans (by rw [hW3]; exact heap_alloc_new _ _), by rw [hWA]; exact heap_alloc_new _ _, bThen k1 k24⟩)
  have HW := Lib.hid (show (((w.alloc (.cells #[.int .i64 e, .int .i64 n, .slice sA s.length sc, .slice qA q.length qc, .int .i64 hv] 35)).alloc (.cells #[.int .i64 pe, .int .i64 (hv + 1), .bool false, .int .i64 pa, .int .i64 fk, .int .i64 fh, .int .i64 fe, .slice fA fp.length fc, .string fs] 39)).alloc (.cells #[.int .i64 0, .int .i64 0, .slice none 0 0, .slice none 0 0, .int .i64 0] 35)).alloc (.cells #[.int .i64 0, .int .i64 0, .int .i64 0, .slice none 0 0, .string ⟨#[]⟩] 37) = WA by rw [hWA, hW3, hW2, hW1])
  obtain ⟨Q, hQ⟩ : ∃ Q, Q = W1.heap.size := ⟨_, rfl⟩
  obtain ⟨R, hR⟩ : ∃ R, R = W2.heap.size := ⟨_, rfl⟩
  obtain ⟨F, hF⟩ : ∃ F, F = W3.heap.size := ⟨_, rfl⟩
  have HE1 := Lib.hid (show w.heap.size + 1 + 1 + 1 = F by omega)
  have HE2 := Lib.hid (show w.heap.size + 1 + 1 = R by omega)
  have HE3 := Lib.hid (show w.heap.size + 1 = Q by omega)
  have hord : w.heap.size < Q ∧ Q < R ∧ R < F := by omega
  have HO := Lib.hid hord
  have hFA : F < WA.heap.size := by omega
  have m1 : ¬ R = F := by omega
  have m2 : ¬ F = R := by omega
  rw [← hQ, ← hR, ← hF] at HA0
  clear hQ hR hF k1 k2 k3 k4 k34 k24 g1 g2 g3 g4 hWA hW3 hW2 hW1 hord hi hT hm hk hf hfm he
  go_enter Tryd.func21, Tryd.ntmps21
  go_wp2_with fail
  rw [HW.out, HE1.out, HE2.out, HE3.out]
  refine (HC.out _ (HT.out.later HA0.out.b) (HI.out.later HA0.out.b)).mono ?_
  rintro r w1 ⟨rfl, hb1⟩
  have HA1 := Lib.hid (HA0.out.later hb1)
  clear hb1
  obtain ⟨p0, p1, p2, p3, p4, v0, v1, v2, v3, v4, pz⟩ := five_cell HA1.out.l
  obtain ⟨q0, q1, q2, q3, q4, q5, q6, q7, q8, g0, g1, g2, g3, g4, g5, g6, g7, g8, gz⟩ := nine_cell HA1.out.p
  obtain ⟨r0, r1, r2, r3, r4, j0, j1, j2, j3, j4, rz⟩ := five_cell HA1.out.r
  obtain ⟨t0, t1, t2, t3, t4, k0, k1, k2, k3, k4, tz⟩ := five_cell HA1.out.f
  go_wp2_with fail
  refine (HF.out _ (HT.out.later HA1.out.b) (Sl.later HOP.out HA1.out.b)).mono ?_
  rintro r w2 ⟨rfl, hb2⟩
  have HA2 := Lib.hid (HA1.out.later hb2)
  clear hb2 p0 p1 p2 p3 p4 v0 v1 v2 v3 v4 pz q0 q1 q2 q3 q4 q5 q6 q7 q8 g0 g1 g2 g3 g4 g5 g6 g7 g8 gz r0 r1 r2 r3 r4 j0 j1 j2 j3 j4 rz t0 t1 t2 t3 t4 k0 k1 k2 k3 k4 tz
  obtain ⟨p0, p1, p2, p3, p4, v0, v1, v2, v3, v4, pz⟩ := five_cell HA2.out.l
  obtain ⟨q0, q1, q2, q3, q4, q5, q6, q7, q8, g0, g1, g2, g3, g4, g5, g6, g7, g8, gz⟩ := nine_cell HA2.out.p
  obtain ⟨r0, r1, r2, r3, r4, j0, j1, j2, j3, j4, rz⟩ := five_cell HA2.out.r
  obtain ⟨t0, t1, t2, t3, t4, k0, k1, k2, k3, k4, tz⟩ := five_cell HA2.out.f
  go_wp2_with fail
  refine (HOW.out _ (HI.out.later HA2.out.b)).mono ?_
  rintro r w3 ⟨⟨e3, n3, sA3, sc3, s3, qA3, qc3, q3', h3⟩, mid, rfl, hd3, hmid, hS3, hQ3, hb3⟩
  have hd3' := hd3
  simp only [LinkV.d, LinkD.mk.injEq] at hd3'
  obtain ⟨d1, d2, d3, d4, d5⟩ := hd3'
  have d1 := d1.symm
  have d2 := d2.symm
  have d5 := d5.symm
  subst d1 d2 d5
  have hl3 : s3.length = s.length := by have := congrArg List.length d3; simpa using this
  have hl4 : q3'.length = q.length := by have := congrArg List.length d4; simpa using this
  have hz3 := hb3.size
  obtain ⟨W4, hW4⟩ : ∃ W4, W4 = w3.alloc (.cells #[.int .i64 e, .int .i64 n, .slice sA3 s3.length sc3, .slice qA3 q3'.length qc3, .int .i64 hv] 35) := ⟨_, rfl⟩
  have hb4 : Below w3.heap.size w3 W4 := by rw [hW4]; exact bAlloc (Below.refl _ _) _
  have hz4 : W4.heap.size = w3.heap.size + 1 := by rw [hW4]; simp
  have hX4 : LinkAt W4 w3.heap.size ⟨e, n, sA3, sc3, s3, qA3, qc3, q3', hv⟩ := by rw [hW4]; exact heap_alloc_new _ _
  have HL4 := LinkSt.plain (l := ⟨e, n, sA3, sc3, s3, qA3, qc3, q3', hv⟩) hS3 hQ3 hmid hb4 hX4
  have HA3 := Lib.hid (HA2.out.later hb3)
  have HA4 := Lib.hid (HA2.out.later (bThen hb3 hb4))
  obtain ⟨X, hX⟩ : ∃ X, X = w3.heap.size := ⟨_, rfl⟩
  rw [← hX] at HL4
  have hba : F < w2.heap.size ∧ w2.heap.size ≤ X ∧ X < W4.heap.size := ⟨HA2.out.lt.2.2.2, by omega, by omega⟩
  have HBA := Lib.hid hba
  have HNM := Lib.hid (show ((s.length : Int) < n ∧ n ≤ 1048576) ∧ s.length ≤ 8 ∧ q.length ≤ 1048576 ∧ (0 ≤ hv ∧ hv ≤ 1048576) from ⟨⟨HK.out.2.1.2.1, HK.out.1.2.1.2⟩, HK.out.2.1.1, HM.out.ql, HK.out.1.2.2⟩)
  have HSM := Lib.hid (show (∀ f ∈ s3, f.o.ps.length ≤ 1048576) ∧ ∀ f ∈ q3', f.o.ps.length ≤ 1048576 from
    ⟨fun f hf => (small_d d3 HM.out.s f hf).op.len, fun f hf => (small_d d4 HM.out.q f hf).op.len⟩)
  have H3 := Lib.hid d3
  have H4 := Lib.hid d4
  have HL3 := Lib.hid hl3
  have HLQ := Lib.hid hl4
  have HXE := Lib.hid hX
  have HW4 := Lib.hid hW4
  have a1 : decide (n - (s3.length : Int) ≤ pa) = true := by have := hA; simp; omega
  have a2 : decide (pa < n) = false := by have := hA; simp; omega
  clear hA
  have b2 : decide (hv < 1048576) = true := by simpa using hh
  clear hh
  have HL4 := Lib.hid HL4
  clear hX hX4 hS3 hQ3 hmid hb3 hb4 hz4 hd3 d3 d4 hl3 hl4 hW4 p0 p1 p2 p3 p4 v0 v1 v2 v3 v4 pz q0 q1 q2 q3 q4 q5 q6 q7 q8 g0 g1 g2 g3 g4 g5 g6 g7 g8 gz r0 r1 r2 r3 r4 j0 j1 j2 j3 j4 rz t0 t1 t2 t3 t4 k0 k1 k2 k3 k4 tz
  obtain ⟨p0, p1, p2, p3, p4, v0, v1, v2, v3, v4, pz⟩ := five_cell HA3.out.l
  obtain ⟨q0, q1, q2, q3, q4, q5, q6, q7, q8, g0, g1, g2, g3, g4, g5, g6, g7, g8, gz⟩ := nine_cell HA3.out.p
  have n1 : ¬ w3.heap.size = Q := by have := HA3.out.lt; omega
  have n2 : ¬ Q = w3.heap.size := by omega
  have hfirst : wrap64 (n - (s3.length : Int)) = n - s3.length := wrap_in (by have := HNM.out; have := HL3.out; omega)
  have hw : wrap64 (hv + 1) = hv + 1 := wrap_in (by have := HNM.out; omega)
  go_wp2_with fail
  all_goals (
    clear hfirst hw
    rw [← HXE.out]
    have hl := HL4.out
    rw [HW4.out, HXE.out] at hl
    refine calls_hide (fun W => (∃ A4 c4, LinkSt W w2.heap.size X ⟨e, n, A4, c4, s3, qA3, qc3, q3', hv + 1⟩) ∧ HearAt w W Q R F ⟨e, n, sA, sc, s, qA, qc, q, hv⟩ ⟨pe, hv + 1, false, pa, ⟨fk, fh, fe, ⟨fA, fc, fp⟩, fs⟩⟩ zeroF ∧ X < W.heap.size) ⟨?_, HA3.out.later (bAlloc (Below.refl _ _) _), by have := HXE.out; simp; omega⟩ ?_
    · rw [HXE.out]
      exact ⟨_, _, hl.heardA (hv + 1)⟩
    clear hl q0 q1 q2 q3 q4 q5 q6 q7 q8 g0 g1 g2 g3 g4 g5 g6 g7 g8 gz p0 p1 p2 p3 p4 v0 v1 v2 v3 v4 pz
    rintro W5 ⟨⟨A4, c4, hL5⟩, hA5, hz5⟩
    have HL5 := Lib.hid hL5
    have HA5 := Lib.hid hA5
    clear hL5 hA5
    refine (HCF.out W5 (Sl.later HOP.out HA5.out.b)).mono ?_
    rintro r wf ⟨A2, c2, rfl, ho2, hb2⟩
    have HAf := Lib.hid (HA5.out.later hb2)
    have HLf := Lib.hid (HL5.out.later hb2)
    have HO2 := Lib.hid ho2
    have hzf := hb2.size
    clear ho2 hb2
    obtain ⟨t0, t1, t2, t3, t4, k0, k1, k2, k3, k4, tz⟩ := five_cell HAf.out.f
    go_wp2_with fail
    obtain ⟨WF, hWF⟩ : ∃ WF, WF = (((((wf.setCell ⟨F, 0, none⟩ (.int .i64 fk)).setCell ⟨F, 1, none⟩ (.int .i64 fh)).setCell ⟨F, 2, none⟩ (.int .i64 fe)).setCell ⟨F, 3, none⟩ (.slice A2 fp.length c2)).setCell ⟨F, 4, none⟩ (.string fs)) := ⟨_, rfl⟩
    rw [← hWF]
    obtain ⟨hAF, hOF⟩ := HAf.out.told HO.out ⟨fk, fh, fe, ⟨A2, c2, fp⟩, fs⟩ hWF
    have HAF := Lib.hid hAF
    have HLF := Lib.hid (HLf.out.low hOF (by have := HBA.out; omega) (by have := HO.out; have := HBA.out; omega))
    have HOF := Lib.hid (HO2.out.moved (S' := fun b => W5.heap.size ≤ b ∧ b < WF.heap.size) (w' := WF) fun b hb => ⟨⟨hb.1, Nat.lt_of_lt_of_le hb.2 hOF.size⟩, hOF.block b hb.2 (by have := HO.out; have := HBA.out; omega)⟩)
    have hzF := hOF.size
    clear hWF hAF hOF t0 t1 t2 t3 t4 k0 k1 k2 k3 k4 tz HA5
    have HFL := Lib.hid (fill_c WF w2.heap.size X ⟨e, n, A4, c4, s3, qA3, qc3, q3', hv + 1⟩ HLF.out (by have := HBA.out; omega) (by have := HNM.out; have := HL3.out; dsimp only; omega) (by have := HNM.out; dsimp only; omega) (by have := HNM.out; have := HLQ.out; dsimp only; omega) ⟨fun f hf => HSM.out.1 f (hf), HSM.out.2⟩)
    rw [show LinkV.d ⟨e, n, A4, c4, s3, qA3, qc3, q3', hv + 1⟩ = D by rw [HDD.out]; simp only [LinkV.d, H3.out, H4.out]] at HFL
    refine HFL.out.mono ?_
    rintro r w6 ⟨l5, A5, c5, L5, rfl, hd5, hp5, hL6, ho6, hu6, hsp, wm, hLm, hbm, hom, hzm⟩
    have HSP := Lib.hid hsp
    have HA6 := Lib.hid (HAF.out.upon (by have := HO.out; have := HBA.out; omega) hu6)
    have HL6 := Lib.hid hL6
    have HD5 := Lib.hid hd5
    have HP5 := Lib.hid hp5
    have HO6 := Lib.hid ho6
    have HLM := Lib.hid hLm
    have HBM := Lib.hid hbm
    have HOM := Lib.hid hom
    have hz6 := hu6.size
    clear hd5 hp5 hL6 ho6 hu6 hLm hbm hom HFL hsp
    obtain ⟨e5, n5, sA5, sc5, s5, qA5, qc5, q5, h5⟩ := l5
    obtain ⟨x0, x1, x2, x3, x4, y0, y1, y2, y3, y4, hxz⟩ := five_cell HL6.out.at_
    obtain ⟨q0, q1, q2, q3, q4, q5', q6, q7, q8, _, _, _, _, _, _, _, _, _, gz⟩ := nine_cell HA6.out.p
    obtain ⟨r0, r1, r2, r3, r4, j0, j1, j2, j3, j4, rz⟩ := five_cell HA6.out.r
    obtain ⟨t0, t1, t2, t3, t4, k0, k1, k2, k3, k4, tz⟩ := five_cell HA6.out.f
    (try dsimp only at x0 x1 x2 x3 x4)
    have z1 : ¬ R = X := by have := HO.out; have := HBA.out; omega
    have z2 : ¬ X = R := by omega
    have z3 : ¬ F = X := by have := HO.out; have := HBA.out; omega
    have z4 : ¬ X = F := by omega
    have HB0 := Lib.hid (bare_c w6 ⟨e5, n5, sA5, sc5, s5, qA5, qc5, q5, h5⟩)
    unfold bareD RetPacket at HB0
    dsimp only at HB0
    go_wp2_with fail
    refine HB0.out.mono ?_
    rintro r w7 ⟨A7, c7, rfl, ho7, hb7⟩
    have HX7 := Lib.hid ((HOM.out.later hb7).row.alloc (.cells #[.int .i64 e5, .int .i64 0, .bool true, .int .i64 h5, .int .i64 0, .int .i64 0, .int .i64 0, .slice A7 0 c7, .string ⟨#[]⟩] 39))
    have HO7 := Lib.hid ho7
    have HB7 := Lib.hid hb7
    have hz7 := hb7.size
    have HLEN := Lib.hid (show L5.length ≤ 8 from by have h1 := congrArg List.length HP5.out; have h2 := fillP_len D; rw [List.length_map, h2.1] at h1; omega)
    have hlen := HLEN.out
    have hzmw := HBM.out.size
    clear ho7 hb7 HB0
    go_wp2_with (refine stop_append rfl ?_)
    refine ⟨?_⟩
    refine wpList_append_sl _ rfl _ _ 41 rfl wm.heap.size 39 i0 (.agg #[.int .i64 0, .int .i64 0, .bool false, .int .i64 0, .int .i64 0, .int .i64 0, .int .i64 0, .slice none 0 0, .string ⟨#[]⟩]) 9 96 Tryd.underlying41 hi0 hz0 hz1 hz2 rfl (by decide) _ _ _ rfl HX7.out (fun _ => True) _ _ _ _ rfl (row_top (by rfl) (by simp)) ?c1 ?c2 ?c3 ?c4 ?_
    case c1 => intro u hu; simp at hu; rcases hu with rfl | rfl | rfl | rfl | rfl | rfl | rfl | rfl | rfl <;> rfl
    case c2 => unfold maxLen; omega
    case c3 => omega
    case c4 => simp; omega
    intro A8 c8 w8 hown' hgrow hat
    have hP := RowOwn.push (f := PacketV.cells) (op := PacketV.op) (x := ⟨e5, 0, true, h5, ⟨0, 0, 0, ⟨A7, c7, []⟩, ⟨#[]⟩⟩⟩) HOM.out hzmw HB7.out HO7.out hgrow hown' hat
    have hF := push_frame HBM.out HB7.out hgrow (fun g hg => (HOM.out.row.lt g hg).1)
    have hU : Upon w2.heap.size X w6 w8 := (Upon.of_below (bAlloc HB7.out _) (by have := HBA.out; omega)).trans (Upon.grown hgrow (by have := HBA.out; simp; omega) (fun g hg => by have := (HOM.out.row.lt g hg).1; have := HBA.out; omega))
    have HA8 := Lib.hid (HA6.out.upon (by have := HO.out; have := HBA.out; omega) hU)
    have HL8 := Lib.hid (HLM.out.later hF)
    have HP8 := Lib.hid hP
    have HF8 := Lib.hid (show OpIn (fun b => w2.heap.size ≤ b ∧ b < w8.heap.size) w8 A2 fp from HOF.out.moved fun b hb => by
      have hs1 := hF.size
      have hs2 := hU.size
      have hb6 := HSP.out b hb.2 (by omega) (fun e1 => by have := (HLF.out.own.lt e1).2; have := HL5.out.own.lt (g := b) e1; omega)
      exact ⟨⟨by have := HBA.out; omega, by omega⟩, ((hgrow.block b (by simp; omega) (fun e1 => by have := (HOM.out.row.lt b e1.symm).1; omega)).trans ((bAlloc HB7.out _).block b (by omega))).trans hb6⟩)
    have HD8 := Lib.hid (show (L5 ++ [(⟨e5, 0, true, h5, ⟨0, 0, 0, ⟨A7, c7, []⟩, ⟨#[]⟩⟩⟩ : PacketV)]).map PacketV.d = fillP D ++ [bareX D] by
      have h1 := HD5.out
      simp only [LinkV.d, fillL, LinkD.mk.injEq] at h1
      rw [List.map_append, HP5.out]
      unfold bareX
      rw [← h1.1, ← h1.2.2.2.2]
      rfl)
    have hz8 := hU.size
    have HZ8 := Lib.hid hF.size
    clear hown' hgrow hat hP hF hU x0 x1 x2 x3 x4 y0 y1 y2 y3 y4 hxz r0 r1 r2 r3 r4 j0 j1 j2 j3 j4 rz t0 t1 t2 t3 t4 k0 k1 k2 k3 k4 tz q0 q1 q2 q3 q4 q5' q6 q7 q8 gz
    obtain ⟨x0, x1, x2, x3, x4, y0, y1, y2, y3, y4, hxz⟩ := five_cell HL8.out.at_
    obtain ⟨r0, r1, r2, r3, r4, j0, j1, j2, j3, j4, rz⟩ := five_cell HA8.out.r
    obtain ⟨t0, t1, t2, t3, t4, k0, k1, k2, k3, k4, tz⟩ := five_cell HA8.out.f
    (try dsimp only at x0 x1 x2 x3 x4 t0 t1 t2 t3 t4)
    go_wp2_with fail
    go_region
    go_wp2_with fail
    obtain ⟨W9, hW9⟩ : ∃ W9, W9 = ((((((((((w8).setCell ⟨R, 0, none⟩ (.int .i64 e5)).setCell ⟨R, 1, none⟩ (.int .i64 n5)).setCell ⟨R, 2, none⟩ (.slice sA5 s5.length sc5)).setCell ⟨R, 3, none⟩ (.slice qA5 q5.length qc5)).setCell ⟨R, 4, none⟩ (.int .i64 h5)).setCell ⟨F, 0, none⟩ (.int .i64 fk)).setCell ⟨F, 1, none⟩ (.int .i64 fh)).setCell ⟨F, 2, none⟩ (.int .i64 fe)).setCell ⟨F, 3, none⟩ (.slice A2 fp.length c2)).setCell ⟨F, 4, none⟩ (.string fs) := ⟨_, rfl⟩
    rw [← hW9]
    obtain ⟨WZ, hWZ⟩ : ∃ WZ, WZ = W9.drew := ⟨_, rfl⟩
    rw [← hWZ]
    obtain ⟨a1, a2, a3⟩ := drew_sets (ten_sets HA8.out.r HA8.out.f m1 hW9) hWZ
    have hB9 := HA8.out.b.trans (a3.below (base := w.heap.size) (by have := HO.out; omega) (by have := HO.out; omega) HA8.out.b.size)
    clear hW9 hWZ r0 r1 r2 r3 r4 t0 t1 t2 t3 t4
    obtain ⟨r0, r1, r2, r3, r4, _, _, _, _, _, _⟩ := five_cell a1
    obtain ⟨t0, t1, t2, t3, t4, _, _, _, _, _, _⟩ := five_cell a2
    refine bodyPost_ret (v := .tuple #[(⟨e5, n5, sA5, sc5, s5, qA5, qc5, q5, h5⟩ : LinkV).val, frameV fk fh fe A2 fp.length c2 fs, .bool true, .slice A8 (L5.length + 1) c8, .int .i64 0]) (by simp [results, Tryd.results21, go_sem, r0, r1, r2, r3, r4, t0, t1, t2, t3, t4]) rfl ?_
    exact ⟨⟨e5, n5, sA5, sc5, s5, qA5, qc5, q5, h5⟩, A2, c2, A8, c8, L5 ++ [⟨e5, 0, true, h5, ⟨0, 0, 0, ⟨A7, c7, []⟩, ⟨#[]⟩⟩⟩], by simp, HD5.out, HD8.out, HL8.out.in_two a3 (by have := HBA.out; have := HO.out; omega) (by have := HBA.out; omega), (HF8.out.moved fun b hb => ⟨Nat.lt_of_lt_of_le hb.2 a3.size, a3.block b hb.2 (by have := HBA.out; have := HO.out; omega) (by have := HBA.out; omega)⟩), PacketsOwn.in_two HP8.out a3 (by have := HBA.out; have := HO.out; omega) (by have := HBA.out; omega), hB9⟩)
end Go.Proofs.YtgcapkkgminidaaDoor
namespace Go.Proofs.YtgcapkkgminidaaDoor
open Go.ChangeShapes Go.WideShapes Go.ChangeAt Go.RowKit
set_option maxRecDepth 100000
set_option maxHeartbeats 2000000 in
theorem Hear_in (w : World) (l : LinkV) (p : PacketV) (hT : Tabs w) (hi : l.In w) (hm : l.Small) (hf : OpIn (· < w.heap.size) w p.f.o.A p.f.o.ps) (hfm : p.f.Small) (hk : linkMay l) (he : packetFault p.d = 0) (h0 : l.e ≠ 0) (h1 : p.ep = l.e) (K : Nat) (hK : (K : Int) = p.ak - (l.n - l.s.length) + 1 ∧ 1 ≤ K ∧ K ≤ l.s.length) (hb : p.b = false) (hn : p.nu ≠ l.h + 1) :
    Calls Tryd.prog 21 #[l.val, packetV p.ep p.nu p.b p.ak p.f.k p.f.h p.f.e p.f.o.A p.f.o.ps.length p.f.o.c p.f.s] w (RetHear w (fillL ⟨l.e, l.n, ((l.s.map FrameV.d).drop K), l.q.map FrameV.d, l.h⟩) zeroF.d false (fillP ⟨l.e, l.n, ((l.s.map FrameV.d).drop K), l.q.map FrameV.d, l.h⟩ ++ [bareX ⟨l.e, l.n, ((l.s.map FrameV.d).drop K), l.q.map FrameV.d, l.h⟩]) 0) := by
  have HC := Lib.hid (fun W hT hi => LinkCheck_c W l hT hi hm)
  rw [if_pos hk] at HC
  have HF := Lib.hid (fun W hT hs => CheckPacket_c W p.ep p.nu p.b p.ak p.f.k p.f.h p.f.e p.f.o.A p.f.o.c p.f.o.ps p.f.s hT hs hfm.op.len hfm.op.text hfm.text)
  rw [show packetFault ⟨p.ep, p.nu, p.b, p.ak, ⟨p.f.k, p.f.h, p.f.e, p.f.o.ps, p.f.s⟩⟩ = 0 from he] at HF
  have HOP := Lib.hid hf
  have HOW := Lib.hid (fun W hi => linkOwn_c W l hi hm)
  have HM := Lib.hid hm
  have HK := Lib.hid hk
  have hpa : 0 ≤ p.ak ∧ p.ak ≤ 1048576 := by
    unfold packetFault at he
    by_cases g : (p.ep < 0 ∨ 1048576 < p.ep) ∨ (p.nu < 0 ∨ 1048576 < p.nu) ∨ (p.ak < 0 ∨ 1048576 < p.ak)
    · rw [if_pos g] at he
      cases he
    · omega
  obtain ⟨i0, hi0, hz0, hz1, hz2⟩ := info_parts infoPacket
  have HI := Lib.hid hi
  have HT := Lib.hid hT
  obtain ⟨e, n, sA, sc, s, qA, qc, q, hv⟩ := l
  obtain ⟨pe, pn, pb, pa, ⟨fk, fh, fe, ⟨fA, fc, fp⟩, fs⟩⟩ := p
  obtain ⟨D, hD⟩ : ∃ D : LinkD, D = ⟨e, n, ((s.map FrameV.d).drop K), q.map FrameV.d, hv⟩ := ⟨_, rfl⟩
  dsimp only at *
  rw [← hD]
  have HDD := Lib.hid hD
  have e0 : (e == 0) = false := by simpa using h0
  have e1 : (pe != e) = false := by simpa using h1
  clear hD h0 h1
  subst hb
  have e2 : (pn == hv + 1) = false := by simpa using hn
  clear hn
  obtain ⟨W1, hW1⟩ : ∃ W1, W1 = w.alloc (.cells #[.int .i64 e, .int .i64 n, .slice sA s.length sc, .slice qA q.length qc, .int .i64 hv] 35) := ⟨_, rfl⟩
  obtain ⟨W2, hW2⟩ : ∃ W2, W2 = W1.alloc (.cells #[.int .i64 pe, .int .i64 pn, .bool false, .int .i64 pa, .int .i64 fk, .int .i64 fh, .int .i64 fe, .slice fA fp.length fc, .string fs] 39) := ⟨_, rfl⟩
  obtain ⟨W3, hW3⟩ : ∃ W3, W3 = W2.alloc (.cells #[.int .i64 0, .int .i64 0, .slice none 0 0, .slice none 0 0, .int .i64 0] 35) := ⟨_, rfl⟩
  obtain ⟨WA, hWA⟩ : ∃ WA, WA = W3.alloc (.cells #[.int .i64 0, .int .i64 0, .int .i64 0, .slice none 0 0, .string ⟨#[]⟩] 37) := ⟨_, rfl⟩
  have g1 : W1.heap.size = w.heap.size + 1 := by rw [hW1]; simp
  have g2 : W2.heap.size = W1.heap.size + 1 := by rw [hW2]; simp
  have g3 : W3.heap.size = W2.heap.size + 1 := by rw [hW3]; simp
  have g4 : WA.heap.size = W3.heap.size + 1 := by rw [hWA]; simp
  have k1 : Below w.heap.size w W1 := by rw [hW1]; exact bAlloc (Below.refl _ _) _
  have k2 : Below W1.heap.size W1 W2 := by rw [hW2]; exact bAlloc (Below.refl _ _) _
  have k3 : Below W2.heap.size W2 W3 := by rw [hW3]; exact bAlloc (Below.refl _ _) _
  have k4 : Below W3.heap.size W3 WA := by rw [hWA]; exact bAlloc (Below.refl _ _) _
  have k34 := bThen k3 k4
  have k24 := bThen k2 k34
  have HA0 := Lib.hid (show HearAt w WA W1.heap.size W2.heap.size W3.heap.size ⟨e, n, sA, sc, s, qA, qc, q, hv⟩ ⟨pe, pn, false, pa, ⟨fk, fh, fe, ⟨fA, fc, fp⟩, fs⟩⟩ zeroF from
    ⟨(k24.block _ (by omega)).trans (by rw [hW1]; exact heap_alloc_new _ _), (k34.block _ (by omega)).trans (by rw [hW2]; exact heap_alloc_new _ _), (k4.block _ (by omega)).trans (by rw [hW3]; exact heap_alloc_new _ _), by rw [hWA]; exact heap_alloc_new _ _, bThen k1 k24⟩)
  have HW := Lib.hid (show (((w.alloc (.cells #[.int .i64 e, .int .i64 n, .slice sA s.length sc, .slice qA q.length qc, .int .i64 hv] 35)).alloc (.cells #[.int .i64 pe, .int .i64 pn, .bool false, .int .i64 pa, .int .i64 fk, .int .i64 fh, .int .i64 fe, .slice fA fp.length fc, .string fs] 39)).alloc (.cells #[.int .i64 0, .int .i64 0, .slice none 0 0, .slice none 0 0, .int .i64 0] 35)).alloc (.cells #[.int .i64 0, .int .i64 0, .int .i64 0, .slice none 0 0, .string ⟨#[]⟩] 37) = WA by rw [hWA, hW3, hW2, hW1])
  obtain ⟨Q, hQ⟩ : ∃ Q, Q = W1.heap.size := ⟨_, rfl⟩
  obtain ⟨R, hR⟩ : ∃ R, R = W2.heap.size := ⟨_, rfl⟩
  obtain ⟨F, hF⟩ : ∃ F, F = W3.heap.size := ⟨_, rfl⟩
  have HE1 := Lib.hid (show w.heap.size + 1 + 1 + 1 = F by omega)
  have HE2 := Lib.hid (show w.heap.size + 1 + 1 = R by omega)
  have HE3 := Lib.hid (show w.heap.size + 1 = Q by omega)
  have hord : w.heap.size < Q ∧ Q < R ∧ R < F := by omega
  have HO := Lib.hid hord
  have hFA : F < WA.heap.size := by omega
  have m1 : ¬ R = F := by omega
  have m2 : ¬ F = R := by omega
  rw [← hQ, ← hR, ← hF] at HA0
  clear hQ hR hF k1 k2 k3 k4 k34 k24 g1 g2 g3 g4 hWA hW3 hW2 hW1 hord hi hT hm hk hf hfm he
  go_enter Tryd.func21, Tryd.ntmps21
  go_wp2_with fail
  rw [HW.out, HE1.out, HE2.out, HE3.out]
  refine (HC.out _ (HT.out.later HA0.out.b) (HI.out.later HA0.out.b)).mono ?_
  rintro r w1 ⟨rfl, hb1⟩
  have HA1 := Lib.hid (HA0.out.later hb1)
  clear hb1
  obtain ⟨p0, p1, p2, p3, p4, v0, v1, v2, v3, v4, pz⟩ := five_cell HA1.out.l
  obtain ⟨q0, q1, q2, q3, q4, q5, q6, q7, q8, g0, g1, g2, g3, g4, g5, g6, g7, g8, gz⟩ := nine_cell HA1.out.p
  obtain ⟨r0, r1, r2, r3, r4, j0, j1, j2, j3, j4, rz⟩ := five_cell HA1.out.r
  obtain ⟨t0, t1, t2, t3, t4, k0, k1, k2, k3, k4, tz⟩ := five_cell HA1.out.f
  go_wp2_with fail
  refine (HF.out _ (HT.out.later HA1.out.b) (Sl.later HOP.out HA1.out.b)).mono ?_
  rintro r w2 ⟨rfl, hb2⟩
  have HA2 := Lib.hid (HA1.out.later hb2)
  clear hb2 p0 p1 p2 p3 p4 v0 v1 v2 v3 v4 pz q0 q1 q2 q3 q4 q5 q6 q7 q8 g0 g1 g2 g3 g4 g5 g6 g7 g8 gz r0 r1 r2 r3 r4 j0 j1 j2 j3 j4 rz t0 t1 t2 t3 t4 k0 k1 k2 k3 k4 tz
  obtain ⟨p0, p1, p2, p3, p4, v0, v1, v2, v3, v4, pz⟩ := five_cell HA2.out.l
  obtain ⟨q0, q1, q2, q3, q4, q5, q6, q7, q8, g0, g1, g2, g3, g4, g5, g6, g7, g8, gz⟩ := nine_cell HA2.out.p
  obtain ⟨r0, r1, r2, r3, r4, j0, j1, j2, j3, j4, rz⟩ := five_cell HA2.out.r
  obtain ⟨t0, t1, t2, t3, t4, k0, k1, k2, k3, k4, tz⟩ := five_cell HA2.out.f
  go_wp2_with fail
  refine (HOW.out _ (HI.out.later HA2.out.b)).mono ?_
  rintro r w3 ⟨⟨e3, n3, sA3, sc3, s3, qA3, qc3, q3', h3⟩, mid, rfl, hd3, hmid, hS3, hQ3, hb3⟩
  have hd3' := hd3
  simp only [LinkV.d, LinkD.mk.injEq] at hd3'
  obtain ⟨d1, d2, d3, d4, d5⟩ := hd3'
  have d1 := d1.symm
  have d2 := d2.symm
  have d5 := d5.symm
  subst d1 d2 d5
  have hl3 : s3.length = s.length := by have := congrArg List.length d3; simpa using this
  have hl4 : q3'.length = q.length := by have := congrArg List.length d4; simpa using this
  have hz3 := hb3.size
  obtain ⟨W4, hW4⟩ : ∃ W4, W4 = w3.alloc (.cells #[.int .i64 e, .int .i64 n, .slice sA3 s3.length sc3, .slice qA3 q3'.length qc3, .int .i64 hv] 35) := ⟨_, rfl⟩
  have hb4 : Below w3.heap.size w3 W4 := by rw [hW4]; exact bAlloc (Below.refl _ _) _
  have hz4 : W4.heap.size = w3.heap.size + 1 := by rw [hW4]; simp
  have hX4 : LinkAt W4 w3.heap.size ⟨e, n, sA3, sc3, s3, qA3, qc3, q3', hv⟩ := by rw [hW4]; exact heap_alloc_new _ _
  have HL4 := LinkSt.plain (l := ⟨e, n, sA3, sc3, s3, qA3, qc3, q3', hv⟩) hS3 hQ3 hmid hb4 hX4
  have HA3 := Lib.hid (HA2.out.later hb3)
  have HA4 := Lib.hid (HA2.out.later (bThen hb3 hb4))
  obtain ⟨X, hX⟩ : ∃ X, X = w3.heap.size := ⟨_, rfl⟩
  rw [← hX] at HL4
  have hba : F < w2.heap.size ∧ w2.heap.size ≤ X ∧ X < W4.heap.size := ⟨HA2.out.lt.2.2.2, by omega, by omega⟩
  have HBA := Lib.hid hba
  have HNM := Lib.hid (show ((s.length : Int) < n ∧ n ≤ 1048576) ∧ s.length ≤ 8 ∧ q.length ≤ 1048576 ∧ (0 ≤ hv ∧ hv ≤ 1048576) from ⟨⟨HK.out.2.1.2.1, HK.out.1.2.1.2⟩, HK.out.2.1.1, HM.out.ql, HK.out.1.2.2⟩)
  have HSM := Lib.hid (show (∀ f ∈ s3, f.o.ps.length ≤ 1048576) ∧ ∀ f ∈ q3', f.o.ps.length ≤ 1048576 from
    ⟨fun f hf => (small_d d3 HM.out.s f hf).op.len, fun f hf => (small_d d4 HM.out.q f hf).op.len⟩)
  have H3 := Lib.hid d3
  have H4 := Lib.hid d4
  have HL3 := Lib.hid hl3
  have HLQ := Lib.hid hl4
  have HXE := Lib.hid hX
  have HW4 := Lib.hid hW4
  have a1 : decide (n - (s3.length : Int) ≤ pa) = true := by have := hK; simp; omega
  have a2 : decide (pa < n) = true := by have := hK; have := HNM.out; simp; omega
  have hcap : K ≤ s3.length ∧ s3.length ≤ sc3 := ⟨by omega, HL4.own.cap.1⟩
  obtain ⟨bA, oA, hbA⟩ : ∃ b o, sA3 = some ⟨b, o, none⟩ := by
    rcases HL4.own.at_ with ⟨_, hc0⟩ | ⟨g, o, hg, _⟩
    · dsimp only at hc0
      omega
    · exact ⟨g, o, hg⟩
  subst hbA
  have hKK := Lib.hid hK
  have a3 : decide ((s3.length : Int) < (K : Int)) = false := by simp; omega
  have a4 : decide ((sc3 : Int) < (K : Int)) = false := by simp; omega
  have hKb : Hid ((pa - (n - (s3.length : Int)) = (K : Int) - 1) ∧ (K : Int) ≤ 8) := ⟨by omega, by have := HNM.out; omega⟩
  clear hK
  have HL4 := Lib.hid HL4
  clear hX hX4 hS3 hQ3 hmid hb3 hb4 hz4 hd3 d3 d4 hl3 hl4 hW4 p0 p1 p2 p3 p4 v0 v1 v2 v3 v4 pz q0 q1 q2 q3 q4 q5 q6 q7 q8 g0 g1 g2 g3 g4 g5 g6 g7 g8 gz r0 r1 r2 r3 r4 j0 j1 j2 j3 j4 rz t0 t1 t2 t3 t4 k0 k1 k2 k3 k4 tz
  obtain ⟨p0, p1, p2, p3, p4, v0, v1, v2, v3, v4, pz⟩ := five_cell HA3.out.l
  obtain ⟨q0, q1, q2, q3, q4, q5, q6, q7, q8, g0, g1, g2, g3, g4, g5, g6, g7, g8, gz⟩ := nine_cell HA3.out.p
  have n1 : ¬ w3.heap.size = Q := by have := HA3.out.lt; omega
  have n2 : ¬ Q = w3.heap.size := by omega
  have hfirst : wrap64 (n - (s3.length : Int)) = n - s3.length := wrap_in (by have := HNM.out; have := HL3.out; omega)
  have hK1 : wrap64 (pa - (n - (s3.length : Int))) = (K : Int) - 1 := by rw [hKb.out.1]; exact wrap_in (by have := hKb.out; omega)
  have hK2 : wrap64 (K : Int) = (K : Int) := wrap_in (by have := hKb.out; omega)
  have hw : wrap64 (hv + 1) = hv + 1 := wrap_in (by have := HNM.out; omega)
  go_wp2_with fail
  all_goals (
    clear hfirst hK1 hK2 hw
    rw [← HXE.out]
    have hl := HL4.out
    rw [HW4.out, HXE.out] at hl
    refine calls_hide (fun W => (∃ A4 c4, LinkSt W w2.heap.size X ⟨e, n, A4, c4, s3.drop K, qA3, qc3, q3', hv⟩) ∧ HearAt w W Q R F ⟨e, n, sA, sc, s, qA, qc, q, hv⟩ ⟨pe, pn, false, pa, ⟨fk, fh, fe, ⟨fA, fc, fp⟩, fs⟩⟩ zeroF ∧ X < W.heap.size) ⟨?_, HA3.out.later (bAlloc (Below.refl _ _) _), by have := HXE.out; simp; omega⟩ ?_
    · rw [HXE.out]
      first
        | exact ⟨_, _, (hl.ackA K hcap.1 (.inl ⟨by assumption, rfl, rfl⟩))⟩
        | exact ⟨_, _, (hl.ackA K hcap.1 (.inr ⟨by assumption, by simp [Addr.add], rfl⟩))⟩
    clear hl q0 q1 q2 q3 q4 q5 q6 q7 q8 g0 g1 g2 g3 g4 g5 g6 g7 g8 gz p0 p1 p2 p3 p4 v0 v1 v2 v3 v4 pz
    rintro W5 ⟨⟨A4, c4, hL5⟩, hA5, hz5⟩
    have HL5 := Lib.hid hL5
    have HA5 := Lib.hid hA5
    clear hL5 hA5
    have HFL := Lib.hid (fill_c W5 w2.heap.size X ⟨e, n, A4, c4, s3.drop K, qA3, qc3, q3', hv⟩ HL5.out (by have := HBA.out; omega) (by have := HNM.out; have := HL3.out; simp only [List.length_drop]; omega) (by have := HNM.out; dsimp only; omega) (by have := HNM.out; have := HLQ.out; dsimp only; omega) ⟨fun f hf => HSM.out.1 f (List.mem_of_mem_drop hf), HSM.out.2⟩)
    rw [show LinkV.d ⟨e, n, A4, c4, s3.drop K, qA3, qc3, q3', hv⟩ = D by rw [HDD.out]; simp only [LinkV.d, List.map_drop, H3.out, H4.out]] at HFL
    refine HFL.out.mono ?_
    rintro r w6 ⟨l5, A5, c5, L5, rfl, hd5, hp5, hL6, ho6, hu6, hsp, wm, hLm, hbm, hom, hzm⟩
    have HSP := Lib.hid hsp
    have HA6 := Lib.hid (HA5.out.upon (by have := HO.out; have := HBA.out; omega) hu6)
    have HL6 := Lib.hid hL6
    have HD5 := Lib.hid hd5
    have HP5 := Lib.hid hp5
    have HO6 := Lib.hid ho6
    have HLM := Lib.hid hLm
    have HBM := Lib.hid hbm
    have HOM := Lib.hid hom
    have hz6 := hu6.size
    clear hd5 hp5 hL6 ho6 hu6 hLm hbm hom HFL hsp
    obtain ⟨e5, n5, sA5, sc5, s5, qA5, qc5, q5, h5⟩ := l5
    obtain ⟨x0, x1, x2, x3, x4, y0, y1, y2, y3, y4, hxz⟩ := five_cell HL6.out.at_
    obtain ⟨q0, q1, q2, q3, q4, q5', q6, q7, q8, _, _, _, _, _, _, _, _, _, gz⟩ := nine_cell HA6.out.p
    obtain ⟨r0, r1, r2, r3, r4, j0, j1, j2, j3, j4, rz⟩ := five_cell HA6.out.r
    obtain ⟨t0, t1, t2, t3, t4, k0, k1, k2, k3, k4, tz⟩ := five_cell HA6.out.f
    (try dsimp only at x0 x1 x2 x3 x4)
    have z1 : ¬ R = X := by have := HO.out; have := HBA.out; omega
    have z2 : ¬ X = R := by omega
    have z3 : ¬ F = X := by have := HO.out; have := HBA.out; omega
    have z4 : ¬ X = F := by omega
    have HB0 := Lib.hid (bare_c w6 ⟨e5, n5, sA5, sc5, s5, qA5, qc5, q5, h5⟩)
    unfold bareD RetPacket at HB0
    dsimp only at HB0
    go_wp2_with fail
    refine HB0.out.mono ?_
    rintro r w7 ⟨A7, c7, rfl, ho7, hb7⟩
    have HX7 := Lib.hid ((HOM.out.later hb7).row.alloc (.cells #[.int .i64 e5, .int .i64 0, .bool true, .int .i64 h5, .int .i64 0, .int .i64 0, .int .i64 0, .slice A7 0 c7, .string ⟨#[]⟩] 39))
    have HO7 := Lib.hid ho7
    have HB7 := Lib.hid hb7
    have hz7 := hb7.size
    have HLEN := Lib.hid (show L5.length ≤ 8 from by have h1 := congrArg List.length HP5.out; have h2 := fillP_len D; rw [List.length_map, h2.1] at h1; omega)
    have hlen := HLEN.out
    have hzmw := HBM.out.size
    clear ho7 hb7 HB0
    go_wp2_with (refine stop_append rfl ?_)
    refine ⟨?_⟩
    refine wpList_append_sl _ rfl _ _ 41 rfl wm.heap.size 39 i0 (.agg #[.int .i64 0, .int .i64 0, .bool false, .int .i64 0, .int .i64 0, .int .i64 0, .int .i64 0, .slice none 0 0, .string ⟨#[]⟩]) 9 96 Tryd.underlying41 hi0 hz0 hz1 hz2 rfl (by decide) _ _ _ rfl HX7.out (fun _ => True) _ _ _ _ rfl (row_top (by rfl) (by simp)) ?c1 ?c2 ?c3 ?c4 ?_
    case c1 => intro u hu; simp at hu; rcases hu with rfl | rfl | rfl | rfl | rfl | rfl | rfl | rfl | rfl <;> rfl
    case c2 => unfold maxLen; omega
    case c3 => omega
    case c4 => simp; omega
    intro A8 c8 w8 hown' hgrow hat
    have hP := RowOwn.push (f := PacketV.cells) (op := PacketV.op) (x := ⟨e5, 0, true, h5, ⟨0, 0, 0, ⟨A7, c7, []⟩, ⟨#[]⟩⟩⟩) HOM.out hzmw HB7.out HO7.out hgrow hown' hat
    have hF := push_frame HBM.out HB7.out hgrow (fun g hg => (HOM.out.row.lt g hg).1)
    have hU : Upon w2.heap.size X w6 w8 := (Upon.of_below (bAlloc HB7.out _) (by have := HBA.out; omega)).trans (Upon.grown hgrow (by have := HBA.out; simp; omega) (fun g hg => by have := (HOM.out.row.lt g hg).1; have := HBA.out; omega))
    have HA8 := Lib.hid (HA6.out.upon (by have := HO.out; have := HBA.out; omega) hU)
    have HL8 := Lib.hid (HLM.out.later hF)
    have HP8 := Lib.hid hP
    have HD8 := Lib.hid (show (L5 ++ [(⟨e5, 0, true, h5, ⟨0, 0, 0, ⟨A7, c7, []⟩, ⟨#[]⟩⟩⟩ : PacketV)]).map PacketV.d = fillP D ++ [bareX D] by
      have h1 := HD5.out
      simp only [LinkV.d, fillL, LinkD.mk.injEq] at h1
      rw [List.map_append, HP5.out]
      unfold bareX
      rw [← h1.1, ← h1.2.2.2.2]
      rfl)
    have hz8 := hU.size
    have HZ8 := Lib.hid hF.size
    clear hown' hgrow hat hP hF hU x0 x1 x2 x3 x4 y0 y1 y2 y3 y4 hxz r0 r1 r2 r3 r4 j0 j1 j2 j3 j4 rz t0 t1 t2 t3 t4 k0 k1 k2 k3 k4 tz q0 q1 q2 q3 q4 q5' q6 q7 q8 gz
    obtain ⟨x0, x1, x2, x3, x4, y0, y1, y2, y3, y4, hxz⟩ := five_cell HL8.out.at_
    obtain ⟨r0, r1, r2, r3, r4, j0, j1, j2, j3, j4, rz⟩ := five_cell HA8.out.r
    obtain ⟨t0, t1, t2, t3, t4, k0, k1, k2, k3, k4, tz⟩ := five_cell HA8.out.f
    (try dsimp only at x0 x1 x2 x3 x4 t0 t1 t2 t3 t4)
    go_wp2_with fail
    go_region
    go_wp2_with fail
    obtain ⟨W9, hW9⟩ : ∃ W9, W9 = ((((((((((w8).setCell ⟨R, 0, none⟩ (.int .i64 e5)).setCell ⟨R, 1, none⟩ (.int .i64 n5)).setCell ⟨R, 2, none⟩ (.slice sA5 s5.length sc5)).setCell ⟨R, 3, none⟩ (.slice qA5 q5.length qc5)).setCell ⟨R, 4, none⟩ (.int .i64 h5)).setCell ⟨F, 0, none⟩ (.int .i64 0)).setCell ⟨F, 1, none⟩ (.int .i64 0)).setCell ⟨F, 2, none⟩ (.int .i64 0)).setCell ⟨F, 3, none⟩ (.slice none 0 0)).setCell ⟨F, 4, none⟩ (.string ⟨#[]⟩) := ⟨_, rfl⟩
    rw [← hW9]
    obtain ⟨WZ, hWZ⟩ : ∃ WZ, WZ = W9.drew := ⟨_, rfl⟩
    rw [← hWZ]
    obtain ⟨a1, a2, a3⟩ := drew_sets (ten_sets HA8.out.r HA8.out.f m1 hW9) hWZ
    have hB9 := HA8.out.b.trans (a3.below (base := w.heap.size) (by have := HO.out; omega) (by have := HO.out; omega) HA8.out.b.size)
    clear hW9 hWZ r0 r1 r2 r3 r4 t0 t1 t2 t3 t4
    obtain ⟨r0, r1, r2, r3, r4, _, _, _, _, _, _⟩ := five_cell a1
    obtain ⟨t0, t1, t2, t3, t4, _, _, _, _, _, _⟩ := five_cell a2
    refine bodyPost_ret (v := .tuple #[(⟨e5, n5, sA5, sc5, s5, qA5, qc5, q5, h5⟩ : LinkV).val, frameV 0 0 0 none 0 0 ⟨#[]⟩, .bool false, .slice A8 (L5.length + 1) c8, .int .i64 0]) (by simp [results, Tryd.results21, go_sem, r0, r1, r2, r3, r4, t0, t1, t2, t3, t4]) rfl ?_
    exact ⟨⟨e5, n5, sA5, sc5, s5, qA5, qc5, q5, h5⟩, none, 0, A8, c8, L5 ++ [⟨e5, 0, true, h5, ⟨0, 0, 0, ⟨A7, c7, []⟩, ⟨#[]⟩⟩⟩], by simp, HD5.out, HD8.out, HL8.out.in_two a3 (by have := HBA.out; have := HO.out; omega) (by have := HBA.out; omega), Sl.nil, PacketsOwn.in_two HP8.out a3 (by have := HBA.out; have := HO.out; omega) (by have := HBA.out; omega), hB9⟩)
end Go.Proofs.YtgcapkkgminidaaDoor
