/-
  Contract of the reference's LinkHeard: what it refuses.
  Contract of the reference's LinkHeard: a bare packet.
  Contract of the reference's LinkHeard: a bare packet.
  Contract of the reference's LinkHeard: a bare packet.
  Contract of the reference's LinkHeard: the next frame.
-/
import Derived.Test.YtgcapkkgminidaaDoorRows
import Derived.Test.YtgcapkkgminidaaDoorMHearP
import Derived.Test.YtgcapkkgminidaaDoorPackets
import Derived.Test.YtgcapkkgminidaaDoorMHeardP
import Derived.BigRegion
namespace Go.Proofs.YtgcapkkgminidaaDoor
open Go.ChangeShapes Go.WideShapes Go.ChangeAt Go.RowKit
set_option maxRecDepth 100000
theorem Heard_s (w : World) (l : LinkV) (p : PacketV) (hT : Tabs w) (hi : l.In w) (hm : l.Small) (_hf : OpIn (· < w.heap.size) w p.f.o.A p.f.o.ps) (_hfm : p.f.Small) (hk : ¬ linkMay l) : Calls Tryd.prog 22 #[l.val, packetV p.ep p.nu p.b p.ak p.f.k p.f.h p.f.e p.f.o.A p.f.o.ps.length p.f.o.c p.f.s] w (RetHear w zeroL.d zeroF.d false [] 9) := by
  have HC := Lib.hid (fun W hT hi => LinkMay_c W l hT hi hm)
  rw [decide_eq_false hk] at HC
  have HI := Lib.hid hi
  have HT := Lib.hid hT
  obtain ⟨e, n, sA, sc, s, qA, qc, q, hv⟩ := l
  obtain ⟨pe, pn, pb, pa, ⟨fk, fh, fe, ⟨fA, fc, fp⟩, fs⟩⟩ := p
  clear hi hT hm hk _hf _hfm
  dsimp only at *
  obtain ⟨W1, hW1⟩ : ∃ W1, W1 = w.alloc (.cells #[.int .i64 e, .int .i64 n, .slice sA s.length sc, .slice qA q.length qc, .int .i64 hv] 35) := ⟨_, rfl⟩
  obtain ⟨W2, hW2⟩ : ∃ W2, W2 = W1.alloc (.cells #[.int .i64 pe, .int .i64 pn, .bool pb, .int .i64 pa, .int .i64 fk, .int .i64 fh, .int .i64 fe, .slice fA fp.length fc, .string fs] 39) := ⟨_, rfl⟩
  obtain ⟨W3, hW3⟩ : ∃ W3, W3 = W2.alloc (.cells #[.int .i64 0, .int .i64 0, .slice none 0 0, .slice none 0 0, .int .i64 0] 35) := ⟨_, rfl⟩
  obtain ⟨WA, hWA⟩ : ∃ WA, WA = W3.alloc (.cells #[.int .i64 0, .int .i64 0, .int .i64 0, .slice none 0 0, .string ⟨#[]⟩] 37) := ⟨_, rfl⟩
  have g1 : W1.heap.size = w.heap.size + 1 := by rw [hW1]; simp
  have g2 : W2.heap.size = W1.heap.size + 1 := by rw [hW2]; simp
  have g3 : W3.heap.size = W2.heap.size + 1 := by rw [hW3]; simp
  have g4 : WA.heap.size = W3.heap.size + 1 := by rw [hWA]; simp
  have k1 : Below w.heap.size w W1 := by rw [hW1]; exact bAlloc (Below.refl _ _) _
  have k2 : Below W1.heap.size W1 W2 := by rw [hW2]; exact bAlloc (Below.refl _ _) _
  have k3 : Below W2.heap.size W2 W3 := by rw [hW3]; exact bAlloc (Below.refl _ _) _
  have k4 : Below W3.heap.size W3 WA := by rw [hWA]; exact bAlloc (Below.refl _ _) _
  have k34 := bThen k3 k4
  have k24 := bThen k2 k34
  have HA0 := Lib.hid (show HearAt w WA W1.heap.size W2.heap.size W3.heap.size ⟨e, n, sA, sc, s, qA, qc, q, hv⟩ ⟨pe, pn, pb, pa, ⟨fk, fh, fe, ⟨fA, fc, fp⟩, fs⟩⟩ zeroF from
    ⟨(k24.block _ (by omega)).trans (by rw [hW1]; exact heap_alloc_new _ _), (k34.block _ (by omega)).trans (by rw [hW2]; exact heap_alloc_new _ _), (k4.block _ (by omega)).trans (by rw [hW3]; exact heap_alloc_new _ _), by rw [hWA]; exact heap_alloc_new _ _, bThen k1 k24⟩)
  have HW := Lib.hid (show (((w.alloc (.cells #[.int .i64 e, .int .i64 n, .slice sA s.length sc, .slice qA q.length qc, .int .i64 hv] 35)).alloc (.cells #[.int .i64 pe, .int .i64 pn, .bool pb, .int .i64 pa, .int .i64 fk, .int .i64 fh, .int .i64 fe, .slice fA fp.length fc, .string fs] 39)).alloc (.cells #[.int .i64 0, .int .i64 0, .slice none 0 0, .slice none 0 0, .int .i64 0] 35)).alloc (.cells #[.int .i64 0, .int .i64 0, .int .i64 0, .slice none 0 0, .string ⟨#[]⟩] 37) = WA by rw [hWA, hW3, hW2, hW1])
  obtain ⟨Q, hQ⟩ : ∃ Q, Q = W1.heap.size := ⟨_, rfl⟩
  obtain ⟨R, hR⟩ : ∃ R, R = W2.heap.size := ⟨_, rfl⟩
  obtain ⟨F, hF⟩ : ∃ F, F = W3.heap.size := ⟨_, rfl⟩
  have HE1 := Lib.hid (show w.heap.size + 1 + 1 + 1 = F by omega)
  have HE2 := Lib.hid (show w.heap.size + 1 + 1 = R by omega)
  have HE3 := Lib.hid (show w.heap.size + 1 = Q by omega)
  have hord : w.heap.size < Q ∧ Q < R ∧ R < F := by omega
  have HO := Lib.hid hord
  have hFA : F < WA.heap.size := by omega
  have m1 : ¬ R = F := by omega
  have m2 : ¬ F = R := by omega
  rw [← hQ, ← hR, ← hF] at HA0
  clear hQ hR hF k1 k2 k3 k4 k34 k24 g1 g2 g3 g4 hWA hW3 hW2 hW1 hord
  go_enter Tryd.func22, Tryd.ntmps22
  go_wp2_with fail
  rw [HW.out, HE1.out, HE2.out, HE3.out]
  refine (HC.out _ (HT.out.later HA0.out.b) (HI.out.later HA0.out.b)).mono ?_
  rintro r w1 ⟨rfl, hb1⟩
  have HA1 := Lib.hid (HA0.out.later hb1)
  clear hb1
  obtain ⟨p0, p1, p2, p3, p4, v0, v1, v2, v3, v4, pz⟩ := five_cell HA1.out.l
  obtain ⟨q0, q1, q2, q3, q4, q5, q6, q7, q8, g0, g1, g2, g3, g4, g5, g6, g7, g8, gz⟩ := nine_cell HA1.out.p
  obtain ⟨r0, r1, r2, r3, r4, j0, j1, j2, j3, j4, rz⟩ := five_cell HA1.out.r
  obtain ⟨t0, t1, t2, t3, t4, k0, k1, k2, k3, k4, tz⟩ := five_cell HA1.out.f
  go_wp2_with fail
  obtain ⟨W9, hW9⟩ : ∃ W9, W9 = ((((((((((w1).setCell ⟨R, 0, none⟩ (.int .i64 0)).setCell ⟨R, 1, none⟩ (.int .i64 0)).setCell ⟨R, 2, none⟩ (.slice none 0 0)).setCell ⟨R, 3, none⟩ (.slice none 0 0)).setCell ⟨R, 4, none⟩ (.int .i64 0)).setCell ⟨F, 0, none⟩ (.int .i64 0)).setCell ⟨F, 1, none⟩ (.int .i64 0)).setCell ⟨F, 2, none⟩ (.int .i64 0)).setCell ⟨F, 3, none⟩ (.slice none 0 0)).setCell ⟨F, 4, none⟩ (.string ⟨#[]⟩) := ⟨_, rfl⟩
  rw [← hW9]
  obtain ⟨a1, a2, a3⟩ := ten_sets HA1.out.r HA1.out.f m1 hW9
  have hB9 := HA1.out.b.trans (a3.below (base := w.heap.size) (by have := HO.out; omega) (by have := HO.out; omega) HA1.out.b.size)
  clear hW9 r0 r1 r2 r3 r4 j0 j1 j2 j3 j4 rz t0 t1 t2 t3 t4 k0 k1 k2 k3 k4 tz
  obtain ⟨r0, r1, r2, r3, r4, _, _, _, _, _, _⟩ := five_cell a1
  obtain ⟨t0, t1, t2, t3, t4, _, _, _, _, _, _⟩ := five_cell a2
  refine bodyPost_ret (v := .tuple #[zeroL.val, frameV 0 0 0 none 0 0 ⟨#[]⟩, .bool false, .slice none 0 0, .int .i64 9]) (by simp [results, Tryd.results22, go_sem, r0, r1, r2, r3, r4, t0, t1, t2, t3, t4]) rfl ?_
  exact ⟨zeroL, none, 0, none, 0, [], rfl, rfl, rfl, zero_in _, Sl.nil, PacketsIn.nil _, hB9⟩
theorem Heard_f (w : World) (l : LinkV) (p : PacketV) (hT : Tabs w) (hi : l.In w) (hm : l.Small) (hf : OpIn (· < w.heap.size) w p.f.o.A p.f.o.ps) (hfm : p.f.Small) (hk : linkMay l) (er : Int) (he : packetFault p.d = er) (h1 : er ≠ 0) : Calls Tryd.prog 22 #[l.val, packetV p.ep p.nu p.b p.ak p.f.k p.f.h p.f.e p.f.o.A p.f.o.ps.length p.f.o.c p.f.s] w (RetHear w zeroL.d zeroF.d false [] er) := by
  have HC := Lib.hid (fun W hT hi => LinkMay_c W l hT hi hm)
  rw [decide_eq_true hk] at HC
  have HF := Lib.hid (fun W hT hs => PacketFault_c W p.ep p.nu p.b p.ak p.f.k p.f.h p.f.e p.f.o.A p.f.o.c p.f.o.ps p.f.s hT hs hfm.op.len hfm.op.text hfm.text)
  rw [show packetFault ⟨p.ep, p.nu, p.b, p.ak, ⟨p.f.k, p.f.h, p.f.e, p.f.o.ps, p.f.s⟩⟩ = er from he] at HF
  have HOP := Lib.hid hf
  have e1 : (er != 0) = true := by simpa using h1
  have e2 : (er == 0) = false := by simpa using h1
  have HI := Lib.hid hi
  have HT := Lib.hid hT
  obtain ⟨e, n, sA, sc, s, qA, qc, q, hv⟩ := l
  obtain ⟨pe, pn, pb, pa, ⟨fk, fh, fe, ⟨fA, fc, fp⟩, fs⟩⟩ := p
  clear hi hT hm hk hf hfm he h1
  dsimp only at *
  obtain ⟨W1, hW1⟩ : ∃ W1, W1 = w.alloc (.cells #[.int .i64 e, .int .i64 n, .slice sA s.length sc, .slice qA q.length qc, .int .i64 hv] 35) := ⟨_, rfl⟩
  obtain ⟨W2, hW2⟩ : ∃ W2, W2 = W1.alloc (.cells #[.int .i64 pe, .int .i64 pn, .bool pb, .int .i64 pa, .int .i64 fk, .int .i64 fh, .int .i64 fe, .slice fA fp.length fc, .string fs] 39) := ⟨_, rfl⟩
  obtain ⟨W3, hW3⟩ : ∃ W3, W3 = W2.alloc (.cells #[.int .i64 0, .int .i64 0, .slice none 0 0, .slice none 0 0, .int .i64 0] 35) := ⟨_, rfl⟩
  obtain ⟨WA, hWA⟩ : ∃ WA, WA = W3.alloc (.cells #[.int .i64 0, .int .i64 0, .int .i64 0, .slice none 0 0, .string ⟨#[]⟩] 37) := ⟨_, rfl⟩
  have g1 : W1.heap.size = w.heap.size + 1 := by rw [hW1]; simp
  have g2 : W2.heap.size = W1.heap.size + 1 := by rw [hW2]; simp
  have g3 : W3.heap.size = W2.heap.size + 1 := by rw [hW3]; simp
  have g4 : WA.heap.size = W3.heap.size + 1 := by rw [hWA]; simp
  have k1 : Below w.heap.size w W1 := by rw [hW1]; exact bAlloc (Below.refl _ _) _
  have k2 : Below W1.heap.size W1 W2 := by rw [hW2]; exact bAlloc (Below.refl _ _) _
  have k3 : Below W2.heap.size W2 W3 := by rw [hW3]; exact bAlloc (Below.refl _ _) _
  have k4 : Below W3.heap.size W3 WA := by rw [hWA]; exact bAlloc (Below.refl _ _) _
  have k34 := bThen k3 k4
  have k24 := bThen k2 k34
  have HA0 := Lib.hid (show HearAt w WA W1.heap.size W2.heap.size W3.heap.size ⟨e, n, sA, sc, s, qA, qc, q, hv⟩ ⟨pe, pn, pb, pa, ⟨fk, fh, fe, ⟨fA, fc, fp⟩, fs⟩⟩ zeroF from
    ⟨(k24.block _ (by omega)).trans (by rw [hW1]; exact heap_alloc_new _ _), (k34.block _ (by omega)).trans (by rw [hW2]; exact heap_alloc_new _ _), (k4.block _ (by omega)).trans (by rw [hW3]; exact heap_alloc_new _ _), by rw [hWA]; exact heap_alloc_new _ _, bThen k1 k24⟩)
  have HW := Lib.hid (show (((w.alloc (.cells #[.int .i64 e, .int .i64 n, .slice sA s.length sc, .slice qA q.length qc, .int .i64 hv] 35)).alloc (.cells #[.int .i64 pe, .int .i64 pn, .bool pb, .int .i64 pa, .int .i64 fk, .int .i64 fh, .int .i64 fe, .slice fA fp.length fc, .string fs] 39)).alloc (.cells #[.int .i64 0, .int .i64 0, .slice none 0 0, .slice none 0 0, .int .i64 0] 35)).alloc (.cells #[.int .i64 0, .int .i64 0, .int .i64 0, .slice none 0 0, .string ⟨#[]⟩] 37) = WA by rw [hWA, hW3, hW2, hW1])
  obtain ⟨Q, hQ⟩ : ∃ Q, Q = W1.heap.size := ⟨_, rfl⟩
  obtain ⟨R, hR⟩ : ∃ R, R = W2.heap.size := ⟨_, rfl⟩
  obtain ⟨F, hF⟩ : ∃ F, F = W3.heap.size := ⟨_, rfl⟩
  have HE1 := Lib.hid (show w.heap.size + 1 + 1 + 1 = F by omega)
  have HE2 := Lib.hid (show w.heap.size + 1 + 1 = R by omega)
  have HE3 := Lib.hid (show w.heap.size + 1 = Q by omega)
  have hord : w.heap.size < Q ∧ Q < R ∧ R < F := by omega
  have HO := Lib.hid hord
  have hFA : F < WA.heap.size := by omega
  have m1 : ¬ R = F := by omega
  have m2 : ¬ F = R := by omega
  rw [← hQ, ← hR, ← hF] at HA0
  clear hQ hR hF k1 k2 k3 k4 k34 k24 g1 g2 g3 g4 hWA hW3 hW2 hW1 hord
  go_enter Tryd.func22, Tryd.ntmps22
  go_wp2_with fail
  rw [HW.out, HE1.out, HE2.out, HE3.out]
  refine (HC.out _ (HT.out.later HA0.out.b) (HI.out.later HA0.out.b)).mono ?_
  rintro r w1 ⟨rfl, hb1⟩
  have HA1 := Lib.hid (HA0.out.later hb1)
  clear hb1
  obtain ⟨p0, p1, p2, p3, p4, v0, v1, v2, v3, v4, pz⟩ := five_cell HA1.out.l
  obtain ⟨q0, q1, q2, q3, q4, q5, q6, q7, q8, g0, g1, g2, g3, g4, g5, g6, g7, g8, gz⟩ := nine_cell HA1.out.p
  obtain ⟨r0, r1, r2, r3, r4, j0, j1, j2, j3, j4, rz⟩ := five_cell HA1.out.r
  obtain ⟨t0, t1, t2, t3, t4, k0, k1, k2, k3, k4, tz⟩ := five_cell HA1.out.f
  go_wp2_with fail
  refine (HF.out _ (HT.out.later HA1.out.b) (Sl.later HOP.out HA1.out.b)).mono ?_
  rintro r w2 ⟨rfl, hb2⟩
  have HA2 := Lib.hid (HA1.out.later hb2)
  clear hb2 p0 p1 p2 p3 p4 v0 v1 v2 v3 v4 pz q0 q1 q2 q3 q4 q5 q6 q7 q8 g0 g1 g2 g3 g4 g5 g6 g7 g8 gz r0 r1 r2 r3 r4 j0 j1 j2 j3 j4 rz t0 t1 t2 t3 t4 k0 k1 k2 k3 k4 tz
  obtain ⟨p0, p1, p2, p3, p4, v0, v1, v2, v3, v4, pz⟩ := five_cell HA2.out.l
  obtain ⟨q0, q1, q2, q3, q4, q5, q6, q7, q8, g0, g1, g2, g3, g4, g5, g6, g7, g8, gz⟩ := nine_cell HA2.out.p
  obtain ⟨r0, r1, r2, r3, r4, j0, j1, j2, j3, j4, rz⟩ := five_cell HA2.out.r
  obtain ⟨t0, t1, t2, t3, t4, k0, k1, k2, k3, k4, tz⟩ := five_cell HA2.out.f
  go_wp2_with fail
  obtain ⟨W9, hW9⟩ : ∃ W9, W9 = ((((((((((w2).setCell ⟨R, 0, none⟩ (.int .i64 0)).setCell ⟨R, 1, none⟩ (.int .i64 0)).setCell ⟨R, 2, none⟩ (.slice none 0 0)).setCell ⟨R, 3, none⟩ (.slice none 0 0)).setCell ⟨R, 4, none⟩ (.int .i64 0)).setCell ⟨F, 0, none⟩ (.int .i64 0)).setCell ⟨F, 1, none⟩ (.int .i64 0)).setCell ⟨F, 2, none⟩ (.int .i64 0)).setCell ⟨F, 3, none⟩ (.slice none 0 0)).setCell ⟨F, 4, none⟩ (.string ⟨#[]⟩) := ⟨_, rfl⟩
  rw [← hW9]
  obtain ⟨a1, a2, a3⟩ := ten_sets HA2.out.r HA2.out.f m1 hW9
  have hB9 := HA2.out.b.trans (a3.below (base := w.heap.size) (by have := HO.out; omega) (by have := HO.out; omega) HA2.out.b.size)
  clear hW9 r0 r1 r2 r3 r4 j0 j1 j2 j3 j4 rz t0 t1 t2 t3 t4 k0 k1 k2 k3 k4 tz
  obtain ⟨r0, r1, r2, r3, r4, _, _, _, _, _, _⟩ := five_cell a1
  obtain ⟨t0, t1, t2, t3, t4, _, _, _, _, _, _⟩ := five_cell a2
  refine bodyPost_ret (v := .tuple #[zeroL.val, frameV 0 0 0 none 0 0 ⟨#[]⟩, .bool false, .slice none 0 0, .int .i64 er]) (by simp [results, Tryd.results22, go_sem, r0, r1, r2, r3, r4, t0, t1, t2, t3, t4]) rfl ?_
  exact ⟨zeroL, none, 0, none, 0, [], rfl, rfl, rfl, zero_in _, Sl.nil, PacketsIn.nil _, hB9⟩
theorem Heard_x (w : World) (l : LinkV) (p : PacketV) (hT : Tabs w) (hi : l.In w) (hm : l.Small) (hf : OpIn (· < w.heap.size) w p.f.o.A p.f.o.ps) (hfm : p.f.Small) (hk : linkMay l) (he : packetFault p.d = 0) (h0 : l.e = 0) : Calls Tryd.prog 22 #[l.val, packetV p.ep p.nu p.b p.ak p.f.k p.f.h p.f.e p.f.o.A p.f.o.ps.length p.f.o.c p.f.s] w (RetHear w zeroL.d zeroF.d false [] 12) := by
  have HC := Lib.hid (fun W hT hi => LinkMay_c W l hT hi hm)
  rw [decide_eq_true hk] at HC
  have HF := Lib.hid (fun W hT hs => PacketFault_c W p.ep p.nu p.b p.ak p.f.k p.f.h p.f.e p.f.o.A p.f.o.c p.f.o.ps p.f.s hT hs hfm.op.len hfm.op.text hfm.text)
  rw [show packetFault ⟨p.ep, p.nu, p.b, p.ak, ⟨p.f.k, p.f.h, p.f.e, p.f.o.ps, p.f.s⟩⟩ = 0 from he] at HF
  have HOP := Lib.hid hf
  have HI := Lib.hid hi
  have HT := Lib.hid hT
  obtain ⟨e, n, sA, sc, s, qA, qc, q, hv⟩ := l
  obtain ⟨pe, pn, pb, pa, ⟨fk, fh, fe, ⟨fA, fc, fp⟩, fs⟩⟩ := p
  clear hi hT hm hk hf hfm he
  dsimp only at h0
  subst h0
  dsimp only at *
  obtain ⟨W1, hW1⟩ : ∃ W1, W1 = w.alloc (.cells #[.int .i64 0, .int .i64 n, .slice sA s.length sc, .slice qA q.length qc, .int .i64 hv] 35) := ⟨_, rfl⟩
  obtain ⟨W2, hW2⟩ : ∃ W2, W2 = W1.alloc (.cells #[.int .i64 pe, .int .i64 pn, .bool pb, .int .i64 pa, .int .i64 fk, .int .i64 fh, .int .i64 fe, .slice fA fp.length fc, .string fs] 39) := ⟨_, rfl⟩
  obtain ⟨W3, hW3⟩ : ∃ W3, W3 = W2.alloc (.cells #[.int .i64 0, .int .i64 0, .slice none 0 0, .slice none 0 0, .int .i64 0] 35) := ⟨_, rfl⟩
  obtain ⟨WA, hWA⟩ : ∃ WA, WA = W3.alloc (.cells #[.int .i64 0, .int .i64 0, .int .i64 0, .slice none 0 0, .string ⟨#[]⟩] 37) := ⟨_, rfl⟩
  have g1 : W1.heap.size = w.heap.size + 1 := by rw [hW1]; simp
  have g2 : W2.heap.size = W1.heap.size + 1 := by rw [hW2]; simp
  have g3 : W3.heap.size = W2.heap.size + 1 := by rw [hW3]; simp
  have g4 : WA.heap.size = W3.heap.size + 1 := by rw [hWA]; simp
  have k1 : Below w.heap.size w W1 := by rw [hW1]; exact bAlloc (Below.refl _ _) _
  have k2 : Below W1.heap.size W1 W2 := by rw [hW2]; exact bAlloc (Below.refl _ _) _
  have k3 : Below W2.heap.size W2 W3 := by rw [hW3]; exact bAlloc (Below.refl _ _) _
  have k4 : Below W3.heap.size W3 WA := by rw [hWA]; exact bAlloc (Below.refl _ _) _
  have k34 := bThen k3 k4
  have k24 := bThen k2 k34
  have HA0 := Lib.hid (show HearAt w WA W1.heap.size W2.heap.size W3.heap.size ⟨0, n, sA, sc, s, qA, qc, q, hv⟩ ⟨pe, pn, pb, pa, ⟨fk, fh, fe, ⟨fA, fc, fp⟩, fs⟩⟩ zeroF from
    ⟨(k24.block _ (by omega)).trans (by rw [hW1]; exact heap_alloc_new _ _), (k34.block _ (by omega)).trans (by rw [hW2]; exact heap_alloc_new _ _), (k4.block _ (by omega)).trans (by rw [hW3]; exact heap_alloc_new _ _), by rw [hWA]; exact heap_alloc_new _ _, bThen k1 k24⟩)
  have HW := Lib.hid (show (((w.alloc (.cells #[.int .i64 0, .int .i64 n, .slice sA s.length sc, .slice qA q.length qc, .int .i64 hv] 35)).alloc (.cells #[.int .i64 pe, .int .i64 pn, .bool pb, .int .i64 pa, .int .i64 fk, .int .i64 fh, .int .i64 fe, .slice fA fp.length fc, .string fs] 39)).alloc (.cells #[.int .i64 0, .int .i64 0, .slice none 0 0, .slice none 0 0, .int .i64 0] 35)).alloc (.cells #[.int .i64 0, .int .i64 0, .int .i64 0, .slice none 0 0, .string ⟨#[]⟩] 37) = WA by rw [hWA, hW3, hW2, hW1])
  obtain ⟨Q, hQ⟩ : ∃ Q, Q = W1.heap.size := ⟨_, rfl⟩
  obtain ⟨R, hR⟩ : ∃ R, R = W2.heap.size := ⟨_, rfl⟩
  obtain ⟨F, hF⟩ : ∃ F, F = W3.heap.size := ⟨_, rfl⟩
  have HE1 := Lib.hid (show w.heap.size + 1 + 1 + 1 = F by omega)
  have HE2 := Lib.hid (show w.heap.size + 1 + 1 = R by omega)
  have HE3 := Lib.hid (show w.heap.size + 1 = Q by omega)
  have hord : w.heap.size < Q ∧ Q < R ∧ R < F := by omega
  have HO := Lib.hid hord
  have hFA : F < WA.heap.size := by omega
  have m1 : ¬ R = F := by omega
  have m2 : ¬ F = R := by omega
  rw [← hQ, ← hR, ← hF] at HA0
  clear hQ hR hF k1 k2 k3 k4 k34 k24 g1 g2 g3 g4 hWA hW3 hW2 hW1 hord
  go_enter Tryd.func22, Tryd.ntmps22
  go_wp2_with fail
  rw [HW.out, HE1.out, HE2.out, HE3.out]
  refine (HC.out _ (HT.out.later HA0.out.b) (HI.out.later HA0.out.b)).mono ?_
  rintro r w1 ⟨rfl, hb1⟩
  have HA1 := Lib.hid (HA0.out.later hb1)
  clear hb1
  obtain ⟨p0, p1, p2, p3, p4, v0, v1, v2, v3, v4, pz⟩ := five_cell HA1.out.l
  obtain ⟨q0, q1, q2, q3, q4, q5, q6, q7, q8, g0, g1, g2, g3, g4, g5, g6, g7, g8, gz⟩ := nine_cell HA1.out.p
  obtain ⟨r0, r1, r2, r3, r4, j0, j1, j2, j3, j4, rz⟩ := five_cell HA1.out.r
  obtain ⟨t0, t1, t2, t3, t4, k0, k1, k2, k3, k4, tz⟩ := five_cell HA1.out.f
  go_wp2_with fail
  refine (HF.out _ (HT.out.later HA1.out.b) (Sl.later HOP.out HA1.out.b)).mono ?_
  rintro r w2 ⟨rfl, hb2⟩
  have HA2 := Lib.hid (HA1.out.later hb2)
  clear hb2 p0 p1 p2 p3 p4 v0 v1 v2 v3 v4 pz q0 q1 q2 q3 q4 q5 q6 q7 q8 g0 g1 g2 g3 g4 g5 g6 g7 g8 gz r0 r1 r2 r3 r4 j0 j1 j2 j3 j4 rz t0 t1 t2 t3 t4 k0 k1 k2 k3 k4 tz
  obtain ⟨p0, p1, p2, p3, p4, v0, v1, v2, v3, v4, pz⟩ := five_cell HA2.out.l
  obtain ⟨q0, q1, q2, q3, q4, q5, q6, q7, q8, g0, g1, g2, g3, g4, g5, g6, g7, g8, gz⟩ := nine_cell HA2.out.p
  obtain ⟨r0, r1, r2, r3, r4, j0, j1, j2, j3, j4, rz⟩ := five_cell HA2.out.r
  obtain ⟨t0, t1, t2, t3, t4, k0, k1, k2, k3, k4, tz⟩ := five_cell HA2.out.f
  go_wp2_with fail
  obtain ⟨W9, hW9⟩ : ∃ W9, W9 = ((((((((((w2).setCell ⟨R, 0, none⟩ (.int .i64 0)).setCell ⟨R, 1, none⟩ (.int .i64 0)).setCell ⟨R, 2, none⟩ (.slice none 0 0)).setCell ⟨R, 3, none⟩ (.slice none 0 0)).setCell ⟨R, 4, none⟩ (.int .i64 0)).setCell ⟨F, 0, none⟩ (.int .i64 0)).setCell ⟨F, 1, none⟩ (.int .i64 0)).setCell ⟨F, 2, none⟩ (.int .i64 0)).setCell ⟨F, 3, none⟩ (.slice none 0 0)).setCell ⟨F, 4, none⟩ (.string ⟨#[]⟩) := ⟨_, rfl⟩
  rw [← hW9]
  obtain ⟨a1, a2, a3⟩ := ten_sets HA2.out.r HA2.out.f m1 hW9
  have hB9 := HA2.out.b.trans (a3.below (base := w.heap.size) (by have := HO.out; omega) (by have := HO.out; omega) HA2.out.b.size)
  clear hW9 r0 r1 r2 r3 r4 j0 j1 j2 j3 j4 rz t0 t1 t2 t3 t4 k0 k1 k2 k3 k4 tz
  obtain ⟨r0, r1, r2, r3, r4, _, _, _, _, _, _⟩ := five_cell a1
  obtain ⟨t0, t1, t2, t3, t4, _, _, _, _, _, _⟩ := five_cell a2
  refine bodyPost_ret (v := .tuple #[zeroL.val, frameV 0 0 0 none 0 0 ⟨#[]⟩, .bool false, .slice none 0 0, .int .i64 12]) (by simp [results, Tryd.results22, go_sem, r0, r1, r2, r3, r4, t0, t1, t2, t3, t4]) rfl ?_
  exact ⟨zeroL, none, 0, none, 0, [], rfl, rfl, rfl, zero_in _, Sl.nil, PacketsIn.nil _, hB9⟩
theorem Heard_y (w : World) (l : LinkV) (p : PacketV) (hT : Tabs w) (hi : l.In w) (hm : l.Small) (hf : OpIn (· < w.heap.size) w p.f.o.A p.f.o.ps) (hfm : p.f.Small) (hk : linkMay l) (he : packetFault p.d = 0) (h0 : l.e ≠ 0) (h1 : p.ep ≠ l.e) : Calls Tryd.prog 22 #[l.val, packetV p.ep p.nu p.b p.ak p.f.k p.f.h p.f.e p.f.o.A p.f.o.ps.length p.f.o.c p.f.s] w (RetHear w zeroL.d zeroF.d false [] 12) := by
  have HC := Lib.hid (fun W hT hi => LinkMay_c W l hT hi hm)
  rw [decide_eq_true hk] at HC
  have HF := Lib.hid (fun W hT hs => PacketFault_c W p.ep p.nu p.b p.ak p.f.k p.f.h p.f.e p.f.o.A p.f.o.c p.f.o.ps p.f.s hT hs hfm.op.len hfm.op.text hfm.text)
  rw [show packetFault ⟨p.ep, p.nu, p.b, p.ak, ⟨p.f.k, p.f.h, p.f.e, p.f.o.ps, p.f.s⟩⟩ = 0 from he] at HF
  have HOP := Lib.hid hf
  have HI := Lib.hid hi
  have HT := Lib.hid hT
  obtain ⟨e, n, sA, sc, s, qA, qc, q, hv⟩ := l
  obtain ⟨pe, pn, pb, pa, ⟨fk, fh, fe, ⟨fA, fc, fp⟩, fs⟩⟩ := p
  clear hi hT hm hk hf hfm he
  dsimp only at h0 h1
  have e0 : (e == 0) = false := by simpa using h0
  have e1 : (e != pe) = true := by simpa using fun q => h1 q.symm
  clear h0 h1
  dsimp only at *
  obtain ⟨W1, hW1⟩ : ∃ W1, W1 = w.alloc (.cells #[.int .i64 e, .int .i64 n, .slice sA s.length sc, .slice qA q.length qc, .int .i64 hv] 35) := ⟨_, rfl⟩
  obtain ⟨W2, hW2⟩ : ∃ W2, W2 = W1.alloc (.cells #[.int .i64 pe, .int .i64 pn, .bool pb, .int .i64 pa, .int .i64 fk, .int .i64 fh, .int .i64 fe, .slice fA fp.length fc, .string fs] 39) := ⟨_, rfl⟩
  obtain ⟨W3, hW3⟩ : ∃ W3, W3 = W2.alloc (.cells #[.int .i64 0, .int .i64 0, .slice none 0 0, .slice none 0 0, .int .i64 0] 35) := ⟨_, rfl⟩
  obtain ⟨WA, hWA⟩ : ∃ WA, WA = W3.alloc (.cells #[.int .i64 0, .int .i64 0, .int .i64 0, .slice none 0 0, .string ⟨#[]⟩] 37) := ⟨_, rfl⟩
  have g1 : W1.heap.size = w.heap.size + 1 := by rw [hW1]; simp
  have g2 : W2.heap.size = W1.heap.size + 1 := by rw [hW2]; simp
  have g3 : W3.heap.size = W2.heap.size + 1 := by rw [hW3]; simp
  have g4 : WA.heap.size = W3.heap.size + 1 := by rw [hWA]; simp
  have k1 : Below w.heap.size w W1 := by rw [hW1]; exact bAlloc (Below.refl _ _) _
  have k2 : Below W1.heap.size W1 W2 := by rw [hW2]; exact bAlloc (Below.refl _ _) _
  have k3 : Below W2.heap.size W2 W3 := by rw [hW3]; exact bAlloc (Below.refl _ _) _
  have k4 : Below W3.heap.size W3 WA := by rw [hWA]; exact bAlloc (Below.refl _ _) _
  have k34 := bThen k3 k4
  have k24 := bThen k2 k34
  have HA0 := Lib.hid (show HearAt w WA W1.heap.size W2.heap.size W3.heap.size ⟨e, n, sA, sc, s, qA, qc, q, hv⟩ ⟨pe, pn, pb, pa, ⟨fk, fh, fe, ⟨fA, fc, fp⟩, fs⟩⟩ zeroF from
    ⟨(k24.block _ (by omega)).trans (by rw [hW1]; exact heap_alloc_new _ _), (k34.block _ (by omega)).trans (by rw [hW2]; exact heap_alloc_new _ _), (k4.block _ (by omega)).trans (by rw [hW3]; exact heap_alloc_new _ _), by rw [hWA]; exact heap_alloc_new _ _, bThen k1 k24⟩)
  have HW := Lib.hid (show (((w.alloc (.cells #[.int .i64 e, .int .i64 n, .slice sA s.length sc, .slice qA q.length qc, .int .i64 hv] 35)).alloc (.cells #[.int .i64 pe, .int .i64 pn, .bool pb, .int .i64 pa, .int .i64 fk, .int .i64 fh, .int .i64 fe, .slice fA fp.length fc, .string fs] 39)).alloc (.cells #[.int .i64 0, .int .i64 0, .slice none 0 0, .slice none 0 0, .int .i64 0] 35)).alloc (.cells #[.int .i64 0, .int .i64 0, .int .i64 0, .slice none 0 0, .string ⟨#[]⟩] 37) = WA by rw [hWA, hW3, hW2, hW1])
  obtain ⟨Q, hQ⟩ : ∃ Q, Q = W1.heap.size := ⟨_, rfl⟩
  obtain ⟨R, hR⟩ : ∃ R, R = W2.heap.size := ⟨_, rfl⟩
  obtain ⟨F, hF⟩ : ∃ F, F = W3.heap.size := ⟨_, rfl⟩
  have HE1 := Lib.hid (show w.heap.size + 1 + 1 + 1 = F by omega)
  have HE2 := Lib.hid (show w.heap.size + 1 + 1 = R by omega)
  have HE3 := Lib.hid (show w.heap.size + 1 = Q by omega)
  have hord : w.heap.size < Q ∧ Q < R ∧ R < F := by omega
  have HO := Lib.hid hord
  have hFA : F < WA.heap.size := by omega
  have m1 : ¬ R = F := by omega
  have m2 : ¬ F = R := by omega
  rw [← hQ, ← hR, ← hF] at HA0
  clear hQ hR hF k1 k2 k3 k4 k34 k24 g1 g2 g3 g4 hWA hW3 hW2 hW1 hord
  go_enter Tryd.func22, Tryd.ntmps22
  go_wp2_with fail
  rw [HW.out, HE1.out, HE2.out, HE3.out]
  refine (HC.out _ (HT.out.later HA0.out.b) (HI.out.later HA0.out.b)).mono ?_
  rintro r w1 ⟨rfl, hb1⟩
  have HA1 := Lib.hid (HA0.out.later hb1)
  clear hb1
  obtain ⟨p0, p1, p2, p3, p4, v0, v1, v2, v3, v4, pz⟩ := five_cell HA1.out.l
  obtain ⟨q0, q1, q2, q3, q4, q5, q6, q7, q8, g0, g1, g2, g3, g4, g5, g6, g7, g8, gz⟩ := nine_cell HA1.out.p
  obtain ⟨r0, r1, r2, r3, r4, j0, j1, j2, j3, j4, rz⟩ := five_cell HA1.out.r
  obtain ⟨t0, t1, t2, t3, t4, k0, k1, k2, k3, k4, tz⟩ := five_cell HA1.out.f
  go_wp2_with fail
  refine (HF.out _ (HT.out.later HA1.out.b) (Sl.later HOP.out HA1.out.b)).mono ?_
  rintro r w2 ⟨rfl, hb2⟩
  have HA2 := Lib.hid (HA1.out.later hb2)
  clear hb2 p0 p1 p2 p3 p4 v0 v1 v2 v3 v4 pz q0 q1 q2 q3 q4 q5 q6 q7 q8 g0 g1 g2 g3 g4 g5 g6 g7 g8 gz r0 r1 r2 r3 r4 j0 j1 j2 j3 j4 rz t0 t1 t2 t3 t4 k0 k1 k2 k3 k4 tz
  obtain ⟨p0, p1, p2, p3, p4, v0, v1, v2, v3, v4, pz⟩ := five_cell HA2.out.l
  obtain ⟨q0, q1, q2, q3, q4, q5, q6, q7, q8, g0, g1, g2, g3, g4, g5, g6, g7, g8, gz⟩ := nine_cell HA2.out.p
  obtain ⟨r0, r1, r2, r3, r4, j0, j1, j2, j3, j4, rz⟩ := five_cell HA2.out.r
  obtain ⟨t0, t1, t2, t3, t4, k0, k1, k2, k3, k4, tz⟩ := five_cell HA2.out.f
  go_wp2_with fail
  obtain ⟨W9, hW9⟩ : ∃ W9, W9 = ((((((((((w2).setCell ⟨R, 0, none⟩ (.int .i64 0)).setCell ⟨R, 1, none⟩ (.int .i64 0)).setCell ⟨R, 2, none⟩ (.slice none 0 0)).setCell ⟨R, 3, none⟩ (.slice none 0 0)).setCell ⟨R, 4, none⟩ (.int .i64 0)).setCell ⟨F, 0, none⟩ (.int .i64 0)).setCell ⟨F, 1, none⟩ (.int .i64 0)).setCell ⟨F, 2, none⟩ (.int .i64 0)).setCell ⟨F, 3, none⟩ (.slice none 0 0)).setCell ⟨F, 4, none⟩ (.string ⟨#[]⟩) := ⟨_, rfl⟩
  rw [← hW9]
  obtain ⟨a1, a2, a3⟩ := ten_sets HA2.out.r HA2.out.f m1 hW9
  have hB9 := HA2.out.b.trans (a3.below (base := w.heap.size) (by have := HO.out; omega) (by have := HO.out; omega) HA2.out.b.size)
  clear hW9 r0 r1 r2 r3 r4 j0 j1 j2 j3 j4 rz t0 t1 t2 t3 t4 k0 k1 k2 k3 k4 tz
  obtain ⟨r0, r1, r2, r3, r4, _, _, _, _, _, _⟩ := five_cell a1
  obtain ⟨t0, t1, t2, t3, t4, _, _, _, _, _, _⟩ := five_cell a2
  refine bodyPost_ret (v := .tuple #[zeroL.val, frameV 0 0 0 none 0 0 ⟨#[]⟩, .bool false, .slice none 0 0, .int .i64 12]) (by simp [results, Tryd.results22, go_sem, r0, r1, r2, r3, r4, t0, t1, t2, t3, t4]) rfl ?_
  exact ⟨zeroL, none, 0, none, 0, [], rfl, rfl, rfl, zero_in _, Sl.nil, PacketsIn.nil _, hB9⟩
end Go.Proofs.YtgcapkkgminidaaDoor
namespace Go.Proofs.YtgcapkkgminidaaDoor
open Go.ChangeShapes Go.WideShapes Go.ChangeAt Go.RowKit
set_option maxRecDepth 100000
set_option maxHeartbeats 2000000 in
theorem Heard_ib (w : World) (l : LinkV) (p : PacketV) (hT : Tabs w) (hi : l.In w) (hm : l.Small) (hf : OpIn (· < w.heap.size) w p.f.o.A p.f.o.ps) (hfm : p.f.Small) (hk : linkMay l) (he : packetFault p.d = 0) (h0 : l.e ≠ 0) (h1 : p.ep = l.e) (hsc : l.s.length ≤ l.sc) (K : Nat) (hK : (K : Int) = p.ak - (l.n - l.s.length) + 1 ∧ 1 ≤ K ∧ K ≤ l.s.length) (hb : p.b = true) :
    Calls Tryd.prog 22 #[l.val, packetV p.ep p.nu p.b p.ak p.f.k p.f.h p.f.e p.f.o.A p.f.o.ps.length p.f.o.c p.f.s] w (RetHear w (fillL ⟨l.e, l.n, ((l.s.map FrameV.d).drop K), l.q.map FrameV.d, l.h⟩) zeroF.d false (fillP ⟨l.e, l.n, ((l.s.map FrameV.d).drop K), l.q.map FrameV.d, l.h⟩) 0) := by
  have HC := Lib.hid (fun W hT hi => LinkMay_c W l hT hi hm)
  rw [decide_eq_true hk] at HC
  have HF := Lib.hid (fun W hT hs => PacketFault_c W p.ep p.nu p.b p.ak p.f.k p.f.h p.f.e p.f.o.A p.f.o.c p.f.o.ps p.f.s hT hs hfm.op.len hfm.op.text hfm.text)
  rw [show packetFault ⟨p.ep, p.nu, p.b, p.ak, ⟨p.f.k, p.f.h, p.f.e, p.f.o.ps, p.f.s⟩⟩ = 0 from he] at HF
  have HOP := Lib.hid hf
  have HOW := Lib.hid (fun W hi => LinkCopyO_c W l hi hm)
  have HM := Lib.hid hm
  have HK := Lib.hid hk
  have hpa : 0 ≤ p.ak ∧ p.ak ≤ 1048576 := by
    unfold packetFault at he
    by_cases g : (p.ep < 0 ∨ 1048576 < p.ep) ∨ (p.nu < 0 ∨ 1048576 < p.nu) ∨ (p.ak < 0 ∨ 1048576 < p.ak)
    · rw [if_pos g] at he
      cases he
    · omega
  have HSC := Lib.hid hsc
  clear hsc
  have HFC := Lib.hid (fun W A c (hs : FramesIn W A (l.s.drop K)) => (show Calls Tryd.prog 57 #[.slice A (l.s.length - K) c] W (RetFrames W ((l.s.drop K).map FrameV.d)) from by rw [← List.length_drop]; exact framesCopy_c W A c (l.s.drop K) hs (by rw [List.length_drop]; have := hm.sl; omega) (fun f hf => (hm.s f (List.mem_of_mem_drop hf)).op.len)))
  have HI := Lib.hid hi
  have HT := Lib.hid hT
  obtain ⟨e, n, sA, sc, s, qA, qc, q, hv⟩ := l
  obtain ⟨pe, pn, pb, pa, ⟨fk, fh, fe, ⟨fA, fc, fp⟩, fs⟩⟩ := p
  obtain ⟨D, hD⟩ : ∃ D : LinkD, D = ⟨e, n, ((s.map FrameV.d).drop K), q.map FrameV.d, hv⟩ := ⟨_, rfl⟩
  dsimp only at *
  rw [← hD]
  have HDD := Lib.hid hD
  have e0 : (e == 0) = false := by simpa using h0
  have e1 : (e != pe) = false := by simpa using h1.symm
  clear hD h0 h1
  subst hb
  obtain ⟨W1, hW1⟩ : ∃ W1, W1 = w.alloc (.cells #[.int .i64 e, .int .i64 n, .slice sA s.length sc, .slice qA q.length qc, .int .i64 hv] 35) := ⟨_, rfl⟩
  obtain ⟨W2, hW2⟩ : ∃ W2, W2 = W1.alloc (.cells #[.int .i64 pe, .int .i64 pn, .bool true, .int .i64 pa, .int .i64 fk, .int .i64 fh, .int .i64 fe, .slice fA fp.length fc, .string fs] 39) := ⟨_, rfl⟩
  obtain ⟨W3, hW3⟩ : ∃ W3, W3 = W2.alloc (.cells #[.int .i64 0, .int .i64 0, .slice none 0 0, .slice none 0 0, .int .i64 0] 35) := ⟨_, rfl⟩
  obtain ⟨WA, hWA⟩ : ∃ WA, WA = W3.alloc (.cells #[.int .i64 0, .int .i64 0, .int .i64 0, .slice none 0 0, .string ⟨#[]⟩] 37) := ⟨_, rfl⟩
  have g1 : W1.heap.size = w.heap.size + 1 := by rw [hW1]; simp
  have g2 : W2.heap.size = W1.heap.size + 1 := by rw [hW2]; simp
  have g3 : W3.heap.size = W2.heap.size + 1 := by rw [hW3]; simp
  have g4 : WA.heap.size = W3.heap.size + 1 := by rw [hWA]; simp
  have k1 : Below w.heap.size w W1 := by rw [hW1]; exact bAlloc (Below.refl _ _) _
  have k2 : Below W1.heap.size W1 W2 := by rw [hW2]; exact bAlloc (Below.refl _ _) _
  have k3 : Below W2.heap.size W2 W3 := by rw [hW3]; exact bAlloc (Below.refl _ _) _
  have k4 : Below W3.heap.size W3 WA := by rw [hWA]; exact bAlloc (Below.refl _ _) _
  have k34 := bThen k3 k4
  have k24 := bThen k2 k34
  have HA0 := Lib.hid (show HearAt w WA W1.heap.size W2.heap.size W3.heap.size ⟨e, n, sA, sc, s, qA, qc, q, hv⟩ ⟨pe, pn, true, pa, ⟨fk, fh, fe, ⟨fA, fc, fp⟩, fs⟩⟩ zeroF from
    ⟨(k24.block _ (by omega)).trans (by rw [hW1]; exact heap_alloc_new _ _), (k34.block _ (by omega)).trans (by rw [hW2]; exact heap_alloc_new _ _), (k4.block _ (by omega)).trans (by rw [hW3]; exact heap_alloc_new _ _), by rw [hWA]; exact heap_alloc_new _ _, bThen k1 k24⟩)
  have HW := Lib.hid (show (((w.alloc (.cells #[.int .i64 e, .int .i64 n, .slice sA s.length sc, .slice qA q.length qc, .int .i64 hv] 35)).alloc (.cells #[.int .i64 pe, .int .i64 pn, .bool true, .int .i64 pa, .int .i64 fk, .int .i64 fh, .int .i64 fe, .slice fA fp.length fc, .string fs] 39)).alloc (.cells #[.int .i64 0, .int .i64 0, .slice none 0 0, .slice none 0 0, .int .i64 0] 35)).alloc (.cells #[.int .i64 0, .int .i64 0, .int .i64 0, .slice none 0 0, .string ⟨#[]⟩] 37) = WA by rw [hWA, hW3, hW2, hW1])
  obtain ⟨Q, hQ⟩ : ∃ Q, Q = W1.heap.size := ⟨_, rfl⟩
  obtain ⟨R, hR⟩ : ∃ R, R = W2.heap.size := ⟨_, rfl⟩
  obtain ⟨F, hF⟩ : ∃ F, F = W3.heap.size := ⟨_, rfl⟩
  have HE1 := Lib.hid (show w.heap.size + 1 + 1 + 1 = F by omega)
  have HE2 := Lib.hid (show w.heap.size + 1 + 1 = R by omega)
  have HE3 := Lib.hid (show w.heap.size + 1 = Q by omega)
  have hord : w.heap.size < Q ∧ Q < R ∧ R < F := by omega
  have HO := Lib.hid hord
  have hFA : F < WA.heap.size := by omega
  have m1 : ¬ R = F := by omega
  have m2 : ¬ F = R := by omega
  rw [← hQ, ← hR, ← hF] at HA0
  clear hQ hR hF k1 k2 k3 k4 k34 k24 g1 g2 g3 g4 hWA hW3 hW2 hW1 hord hi hT hm hk hf hfm he
  go_enter Tryd.func22, Tryd.ntmps22
  go_wp2_with fail
  rw [HW.out, HE1.out, HE2.out, HE3.out]
  refine (HC.out _ (HT.out.later HA0.out.b) (HI.out.later HA0.out.b)).mono ?_
  rintro r w1 ⟨rfl, hb1⟩
  have HA1 := Lib.hid (HA0.out.later hb1)
  clear hb1
  obtain ⟨p0, p1, p2, p3, p4, v0, v1, v2, v3, v4, pz⟩ := five_cell HA1.out.l
  obtain ⟨q0, q1, q2, q3, q4, q5, q6, q7, q8, g0, g1, g2, g3, g4, g5, g6, g7, g8, gz⟩ := nine_cell HA1.out.p
  obtain ⟨r0, r1, r2, r3, r4, j0, j1, j2, j3, j4, rz⟩ := five_cell HA1.out.r
  obtain ⟨t0, t1, t2, t3, t4, k0, k1, k2, k3, k4, tz⟩ := five_cell HA1.out.f
  go_wp2_with fail
  refine (HF.out _ (HT.out.later HA1.out.b) (Sl.later HOP.out HA1.out.b)).mono ?_
  rintro r w2 ⟨rfl, hb2⟩
  have HA2 := Lib.hid (HA1.out.later hb2)
  clear hb2 p0 p1 p2 p3 p4 v0 v1 v2 v3 v4 pz q0 q1 q2 q3 q4 q5 q6 q7 q8 g0 g1 g2 g3 g4 g5 g6 g7 g8 gz r0 r1 r2 r3 r4 j0 j1 j2 j3 j4 rz t0 t1 t2 t3 t4 k0 k1 k2 k3 k4 tz
  obtain ⟨p0, p1, p2, p3, p4, v0, v1, v2, v3, v4, pz⟩ := five_cell HA2.out.l
  obtain ⟨q0, q1, q2, q3, q4, q5, q6, q7, q8, g0, g1, g2, g3, g4, g5, g6, g7, g8, gz⟩ := nine_cell HA2.out.p
  obtain ⟨r0, r1, r2, r3, r4, j0, j1, j2, j3, j4, rz⟩ := five_cell HA2.out.r
  obtain ⟨t0, t1, t2, t3, t4, k0, k1, k2, k3, k4, tz⟩ := five_cell HA2.out.f
  go_wp2_with fail
  refine (HOW.out _ (HI.out.later HA2.out.b)).mono ?_
  rintro r w3 ⟨⟨e3, n3, sA3, sc3, s3, qA3, qc3, q3', h3⟩, mid, rfl, hd3, hmid, hS3, hQ3, hb3⟩
  have hd3' := hd3
  simp only [LinkV.d, LinkD.mk.injEq] at hd3'
  obtain ⟨d1, d2, d3, d4, d5⟩ := hd3'
  have d1 := d1.symm
  have d2 := d2.symm
  have d5 := d5.symm
  subst d1 d2 d5
  have hl3 : s3.length = s.length := by have := congrArg List.length d3; simpa using this
  have hl4 : q3'.length = q.length := by have := congrArg List.length d4; simpa using this
  have hz3 := hb3.size
  obtain ⟨W4, hW4⟩ : ∃ W4, W4 = w3.alloc (.cells #[.int .i64 e, .int .i64 n, .slice sA3 s3.length sc3, .slice qA3 q3'.length qc3, .int .i64 hv] 35) := ⟨_, rfl⟩
  have hb4 : Below w3.heap.size w3 W4 := by rw [hW4]; exact bAlloc (Below.refl _ _) _
  have hX4 : LinkAt W4 w3.heap.size ⟨e, n, sA3, sc3, s3, qA3, qc3, q3', hv⟩ := by rw [hW4]; exact heap_alloc_new _ _
  have HL4 := Lib.hid (LinkSt.plain (l := ⟨e, n, sA3, sc3, s3, qA3, qc3, q3', hv⟩) hS3 hQ3 hmid hb4 hX4)
  have HA3 := Lib.hid (HA2.out.later hb3)
  have HA4 := Lib.hid (HA2.out.later (bThen hb3 hb4))
  have hz4 := hb4.size
  have hXz : w3.heap.size < W4.heap.size := by rw [hW4]; simp
  have HNM := Lib.hid (show ((s.length : Int) < n ∧ n ≤ 1048576) ∧ s.length ≤ 8 ∧ q.length ≤ 1048576 ∧ (0 ≤ hv ∧ hv ≤ 1048576) from ⟨⟨HK.out.2.1.2.1, HK.out.1.2.1.2⟩, HK.out.2.1.1, HM.out.ql, HK.out.1.2.2⟩)
  have HSM := Lib.hid (show (∀ f ∈ s3, f.o.ps.length ≤ 1048576) ∧ ∀ f ∈ q3', f.o.ps.length ≤ 1048576 from
    ⟨fun f hf => (small_d d3 HM.out.s f hf).op.len, fun f hf => (small_d d4 HM.out.q f hf).op.len⟩)
  have H3 := Lib.hid d3
  have H4 := Lib.hid d4
  have HL3 := Lib.hid hl3
  have HLQ := Lib.hid hl4
  have HBA := Lib.hid (show F < w2.heap.size ∧ w2.heap.size ≤ w3.heap.size ∧ w3.heap.size < W4.heap.size from ⟨HA2.out.lt.2.2.2, hz3, hXz⟩)
  have HW4 := Lib.hid hW4
  have HKD := Lib.hid (show kinds D from by
    rw [HDD.out]
    exact ⟨fun f hf => framesOk_kinds HK.out.2.2.1.1 f (List.mem_of_mem_drop hf), fun f hf => framesOk_kinds HK.out.2.2.1.2 f hf⟩)
  clear hS3 hQ3 hmid hb3 hb4 hd3 d3 d4 hl3 hl4 hW4 hX4 hz4 hXz p0 p1 p2 p3 p4 v0 v1 v2 v3 v4 pz q0 q1 q2 q3 q4 q5 q6 q7 q8 g0 g1 g2 g3 g4 g5 g6 g7 g8 gz r0 r1 r2 r3 r4 j0 j1 j2 j3 j4 rz t0 t1 t2 t3 t4 k0 k1 k2 k3 k4 tz
  obtain ⟨p0, p1, p2, p3, p4, v0, v1, v2, v3, v4, pz⟩ := five_cell HA3.out.l
  obtain ⟨q0, q1, q2, q3, q4, q5, q6, q7, q8, g0, g1, g2, g3, g4, g5, g6, g7, g8, gz⟩ := nine_cell HA3.out.p
  have n1 : ¬ w3.heap.size = Q := by have := HA3.out.lt; omega
  have n2 : ¬ Q = w3.heap.size := by omega
  have n3 : ¬ w3.heap.size = w.heap.size := by have := HA3.out.lt; omega
  have n4 : ¬ w.heap.size = w3.heap.size := by omega
  have hfirst : wrap64 (n - (s.length : Int)) = n - s.length := wrap_in (by have := HNM.out; omega)
  have hn1 : wrap64 (n - 1) = n - 1 := wrap_in (by have := HNM.out; omega)
  obtain ⟨X, hX⟩ : ∃ X, X = w3.heap.size := ⟨_, rfl⟩
  have HXE := Lib.hid hX
  clear hX
  go_wp2_with fail
  rw [← HW4.out, ← HXE.out]
  refine (In_yes pa (n - (s.length : Int)) (n - 1) W4 (by omega) (by omega)).mono ?_
  rintro r w5 ⟨rfl, rfl⟩
  have HLS := Lib.hid (show LinkSt W4 w2.heap.size X ⟨e, n, sA3, sc3, s3, qA3, qc3, q3', hv⟩ by rw [HXE.out]; exact HL4.out)
  have HQC := Lib.hid HL4.out.qcap
  have HOX := Lib.hid (show F < X ∧ X < W4.heap.size by have := HBA.out; have := HXE.out; omega)
  clear q0 q1 q2 q3 q4 q5 q6 q7 q8 g0 g1 g2 g3 g4 g5 g6 g7 g8 gz p0 p1 p2 p3 p4 v0 v1 v2 v3 v4 pz n1 n2 n3 n4 hn1
  have HNX := Lib.hid (show ((¬ X = w.heap.size) ∧ (¬ w.heap.size = X)) ∧ ((¬ X = Q) ∧ (¬ Q = X)) ∧ ((¬ X = R) ∧ (¬ R = X)) ∧ ((¬ X = F) ∧ (¬ F = X)) by have := HO.out; have := HOX.out; omega)
  obtain ⟨⟨z1, z2⟩, ⟨z3, z4⟩, ⟨z5, z6⟩, ⟨z7, z8⟩⟩ := HNX.out
  have hK1 : wrap64 (pa + 1) = pa + 1 := wrap_in (by omega)
  have hK2 : wrap64 (pa + 1 - (n - (s.length : Int))) = (K : Int) := by
    rw [show pa + 1 - (n - (s.length : Int)) = (K : Int) by have := hK; omega]
    exact wrap_in (by have := HNM.out; have := hK; omega)
  have HI3 := Lib.hid (HI.out.later HA4.out.b)
  have HCP := Lib.hid (show (s.length = 0 ∨ ∃ b o, sA = some ⟨b, o, none⟩) from by
    by_cases h0 : 0 < s.length
    · obtain ⟨b, o, e1, _⟩ := HI.out.s.row.2 h0
      exact .inr ⟨b, o, e1⟩
    · exact .inl (by omega))
  have hKK := Lib.hid hK
  obtain ⟨bA, oA, rfl⟩ : ∃ b o, sA = some ⟨b, o, none⟩ := by
    rcases HCP.out with h1 | h1
    · exact absurd h1 (by have := hKK.out; omega)
    · exact h1
  have a3 : decide ((s.length : Int) < (K : Int)) = false := by simp; omega
  have a4 : decide ((sc : Int) < (K : Int)) = false := by have := HSC.out; simp; omega
  have hKl : K ≤ s.length := hK.2.2
  have HDR := Lib.hid (fun (A' : Option Addr) (hA : A' = (if sc = K then some ⟨bA, oA, none⟩ else some ⟨bA, oA + K * 5, none⟩)) => drop_in (K := K) HI3.out.s hKl HSC.out hA)
  clear hK
  obtain ⟨p0, p1, p2, p3, p4, v0, v1, v2, v3, v4, pz⟩ := five_cell HA4.out.l
  obtain ⟨q0, q1, q2, q3, q4, q5, q6, q7, q8, g0, g1, g2, g3, g4, g5, g6, g7, g8, gz⟩ := nine_cell HA4.out.p
  obtain ⟨x0, x1, x2, x3, x4, y0, y1, y2, y3, y4, hxz⟩ := five_cell HLS.out.at_
  (try dsimp only at x0 x1 x2 x3 x4)
  go_wp2_with fail
  all_goals (
    clear hK1 hK2 hfirst
    refine (HFC.out W4 _ _ ?hs).mono ?_
    case hs => exact HDR.out _ (by first | (rw [if_pos (by assumption)]; done) | (rw [if_neg (by assumption)]; done) | (rw [if_pos (by omega)]; done) | (rw [if_neg (by omega)]; done))
    rintro r w5 ⟨A4, c4, L4, rfl, hd4, ho4, hb4⟩
    have HD4 := Lib.hid hd4
    have HO4 := Lib.hid ho4
    have HB4 := Lib.hid hb4
    have HA5' := Lib.hid (HA4.out.later hb4)
    have hX5 := (hb4.block X HOX.out.2).trans HLS.out.at_
    clear ho4 hb4 hd4 p0 p1 p2 p3 p4 v0 v1 v2 v3 v4 pz q0 q1 q2 q3 q4 q5 q6 q7 q8 g0 g1 g2 g3 g4 g5 g6 g7 g8 gz x0 x1 x2 x3 x4 y0 y1 y2 y3 y4 hxz
    obtain ⟨p0, p1, p2, p3, p4, v0, v1, v2, v3, v4, pz⟩ := five_cell HA5'.out.l
    obtain ⟨q0, q1, q2, q3, q4, q5, q6, q7, q8, g0, g1, g2, g3, g4, g5, g6, g7, g8, gz⟩ := nine_cell HA5'.out.p
    obtain ⟨x0, x1, x2, x3, x4, y0, y1, y2, y3, y4, hxz⟩ := five_cell hX5
    (try dsimp only at x0 x1 x2 x3 x4)
    clear hX5
    go_wp2_with fail
    obtain ⟨V, hV⟩ : ∃ V, V = w5.setCell ⟨X, 2, none⟩ (.slice A4 L4.length c4) := ⟨_, rfl⟩
    have hsw := HLS.out.swap HO4.out HB4.out rfl HOX.out.2
    rw [← hV] at hsw
    rw [← hV]
    have hVO : Upon w2.heap.size X w5 V := by rw [hV]; exact Upon.set _ _ _
    have hVz : V.heap.size = w5.heap.size := by rw [hV]; simp [World.setCell]
    have HVF := Lib.hid (show (fun V => LinkAt V X ⟨e, n, A4, c4, L4, qA3, qc3, q3', hv⟩ ∧ (⟨e, n, A4, c4, L4, qA3, qc3, q3', hv⟩ : LinkV).In V ∧ LinkV.d ⟨e, n, A4, c4, L4, qA3, qc3, q3', hv⟩ = D ∧ (L4.length ≤ s3.length ∧ ∀ f ∈ L4, f.o.ps.length ≤ 1048576) ∧ HearAt w V Q R F ⟨e, n, some ⟨bA, oA, none⟩, sc, s, qA, qc, q, hv⟩ ⟨pe, pn, true, pa, ⟨fk, fh, fe, ⟨fA, fc, fp⟩, fs⟩⟩ zeroF ∧ X < V.heap.size) V from ⟨hsw.1, hsw.2, by rw [HDD.out]; simp only [LinkV.d, HD4.out, H4.out, List.map_drop], ⟨by
      have h1 := congrArg List.length HD4.out
      have h2 := HL3.out
      simp only [List.length_map, List.length_drop] at h1
      omega, fun f hf => by
      have h1 : f.d ∈ (s.drop K).map FrameV.d := HD4.out ▸ List.mem_map.2 ⟨f, hf, rfl⟩
      obtain ⟨g, hg, e1⟩ := List.mem_map.1 h1
      have h2 := (HM.out.s g (List.mem_of_mem_drop hg)).op.len
      have h3 := congrArg (fun x => x.op.length) e1
      dsimp only at h3
      omega⟩, HA5'.out.upon (by have := HO.out; have := HBA.out; have := HXE.out; omega) hVO, by have := HOX.out; have := HB4.out.size; omega⟩)
    clear hsw hVO hV p0 p1 p2 p3 p4 v0 v1 v2 v3 v4 pz q0 q1 q2 q3 q4 q5 q6 q7 q8 g0 g1 g2 g3 g4 g5 g6 g7 g8 gz x0 x1 x2 x3 x4 y0 y1 y2 y3 y4 hxz
    rw [show w5.heap.size = V.heap.size from hVz.symm]
    clear hVz
    obtain ⟨hXV, hIV, hDV, hSV, hAV, hzV⟩ := HVF.out
    have HXV := Lib.hid hXV
    have HIV := Lib.hid hIV
    have HDV := Lib.hid hDV
    have HSV := Lib.hid hSV
    have HAV := Lib.hid hAV
    clear hXV hIV hDV hSV hAV HVF
    obtain ⟨W5, hW5⟩ : ∃ W5, W5 = V.alloc (.cells #[.int .i64 0, .int .i64 0, .int .i64 0, .slice none 0 0, .string ⟨#[]⟩] 37) := ⟨_, rfl⟩
    rw [← hW5]
    have hb5 : Below V.heap.size V W5 := by rw [hW5]; exact bAlloc (Below.refl _ _) _
    have HG5 := Lib.hid (show FrameAt W5 V.heap.size 0 0 0 none 0 0 ⟨#[]⟩ by rw [hW5]; exact heap_alloc_new _ _)
    have HA5 := Lib.hid (HAV.out.later hb5)
    have HX5 := Lib.hid ((hb5.block X hzV).trans HXV.out)
    have HI5' := Lib.hid (HIV.out.later hb5)
    obtain ⟨G, hG⟩ : ∃ G, G = V.heap.size := ⟨_, rfl⟩
    rw [← hG] at HG5
    rw [← hG]
    have HOG := Lib.hid (show F < X ∧ X < G ∧ G < W5.heap.size by have := HOX.out; have := (five_cell HG5.out).2.2.2.2.2.2.2.2.2.2; omega)
    have HWV := Lib.hid (show V.heap.size = G ∧ Below V.heap.size V W5 from ⟨hG.symm, hb5⟩)
    clear hG hW5 hb5
    have HFL := Lib.hid (filled_c W5 ⟨e, n, A4, c4, L4, qA3, qc3, q3', hv⟩ HI5'.out HQC.out (by have := HNM.out; have := HL3.out; have := HSV.out.1; dsimp only; omega) (by have := HNM.out; dsimp only; omega) (by have := HNM.out; have := HLQ.out; dsimp only; omega) ⟨HSV.out.2, HSM.out.2⟩)
    rw [HDV.out] at HFL
    refine HFL.out.mono ?_
    rintro r w6 ⟨⟨e5, n5, sA5, sc5, s5, qA5, qc5, q5, h5⟩, A5, c5, L5, rfl, hd5, hp5, hi5, ho5, hb6, wm, him, hbm, hom, hzm⟩
    have HD5 := Lib.hid hd5
    have HP5 := Lib.hid hp5
    clear him hbm hom hzm
    
    
    obtain ⟨W7, hW7⟩ : ∃ W7, W7 = w6.alloc (.cells #[.int .i64 e5, .int .i64 n5, .slice sA5 s5.length sc5, .slice qA5 q5.length qc5, .int .i64 h5] 35) := ⟨_, rfl⟩
    have hb7 : Below w6.heap.size w6 W7 := by rw [hW7]; exact bAlloc (Below.refl _ _) _
    have hb67 := bThen hb6 hb7
    have HI7 := Lib.hid (hi5.later hb7)
    have HO7 := Lib.hid (ho5.later hb7)
    
    have HA6 := Lib.hid (HA5.out.later hb6)
    have HG6 := Lib.hid ((hb6.block G (by have := HOG.out; omega)).trans HG5.out)
    have HA7 := Lib.hid (HA5.out.later hb67)
    have HG7 := Lib.hid ((hb67.block G (by have := HOG.out; omega)).trans HG5.out)
    have HY7 := Lib.hid (show LinkAt W7 w6.heap.size ⟨e5, n5, sA5, sc5, s5, qA5, qc5, q5, h5⟩ by rw [hW7]; exact heap_alloc_new _ _)
    have HW7 := Lib.hid hW7
    have hz6 := hb6.size
    have hz7 := hb7.size
    have HGZ := Lib.hid (show G < w6.heap.size by have := HOG.out; omega)
    
    
    
    clear hd5 hp5 hi5 ho5 hb6 hb7 hb67 hW7 HFL
    obtain ⟨p0, p1, p2, p3, p4, v0, v1, v2, v3, v4, pz⟩ := five_cell HA6.out.l
    obtain ⟨q0, q1, q2, q3, q4, q5, q6, q7, q8, g0, g1, g2, g3, g4, g5, g6, g7, g8, gz⟩ := nine_cell HA6.out.p
    obtain ⟨b0, b1, b2, b3, b4, _, _, _, _, _, bz⟩ := five_cell HG6.out
    have HNG := Lib.hid (show ((¬ G = R) ∧ (¬ R = G)) ∧ ((¬ G = F) ∧ (¬ F = G)) ∧ ((¬ w6.heap.size = R) ∧ (¬ R = w6.heap.size)) ∧ ((¬ w6.heap.size = F) ∧ (¬ F = w6.heap.size)) ∧ ((¬ w6.heap.size = Q) ∧ (¬ Q = w6.heap.size)) ∧ ((¬ w6.heap.size = w.heap.size) ∧ (¬ w.heap.size = w6.heap.size)) ∧ ((¬ w6.heap.size = G) ∧ (¬ G = w6.heap.size)) by
      have h1 := HO.out
      have h2 := HOX.out.1
      have h3 := HGZ.out
      have h4 : X < G := by have := HOG.out; omega
      clear hz6 hz7
      refine ⟨⟨?_, ?_⟩, ⟨?_, ?_⟩, ⟨?_, ?_⟩, ⟨?_, ?_⟩, ⟨?_, ?_⟩, ⟨?_, ?_⟩, ?_, ?_⟩ <;> omega)
    go_wp2_with fail
    rw [← HW7.out]
    clear p0 p1 p2 p3 p4 v0 v1 v2 v3 v4 pz q0 q1 q2 q3 q4 q5 q6 q7 q8 g0 g1 g2 g3 g4 g5 g6 g7 g8 gz b0 b1 b2 b3 b4 bz
    obtain ⟨⟨z9, z10⟩, ⟨z11, z12⟩, ⟨z13, z14⟩, ⟨z15, z16⟩, ⟨z17, z18⟩, ⟨z19, z20⟩, ⟨z21, z22⟩⟩ := HNG.out
    obtain ⟨x0, x1, x2, x3, x4, y0, y1, y2, y3, y4, hxz⟩ := five_cell HY7.out
    obtain ⟨b0, b1, b2, b3, b4, _, _, _, _, _, bz⟩ := five_cell HG7.out
    obtain ⟨r0, r1, r2, r3, r4, j0, j1, j2, j3, j4, rz⟩ := five_cell HA7.out.r
    obtain ⟨t0, t1, t2, t3, t4, k0, k1, k2, k3, k4, tz⟩ := five_cell HA7.out.f
    (try dsimp only at x0 x1 x2 x3 x4 t0 t1 t2 t3 t4)
    
    go_region
    go_wp2_with fail
    obtain ⟨W9, hW9⟩ : ∃ W9, W9 = ((((((((((W7).setCell ⟨R, 0, none⟩ (.int .i64 e5)).setCell ⟨R, 1, none⟩ (.int .i64 n5)).setCell ⟨R, 2, none⟩ (.slice sA5 s5.length sc5)).setCell ⟨R, 3, none⟩ (.slice qA5 q5.length qc5)).setCell ⟨R, 4, none⟩ (.int .i64 h5)).setCell ⟨F, 0, none⟩ (.int .i64 0)).setCell ⟨F, 1, none⟩ (.int .i64 0)).setCell ⟨F, 2, none⟩ (.int .i64 0)).setCell ⟨F, 3, none⟩ (.slice none 0 0)).setCell ⟨F, 4, none⟩ (.string ⟨#[]⟩) := ⟨_, rfl⟩
    rw [← hW9]
    obtain ⟨WZ, hWZ⟩ : ∃ WZ, WZ = W9.drew := ⟨_, rfl⟩
    rw [← hWZ]
    obtain ⟨a1, a2, a3, a5⟩ := heard_sets HA7.out.r HA7.out.f m1 hW9 hWZ
    have hI9 := a5 _ HI7.out (by rw [HD5.out]; exact kinds_fill HKD.out)
    have hB9 := HA7.out.b.trans (a3.below (base := w.heap.size) (by have := HO.out; omega) (by have := HO.out; omega) HA7.out.b.size)
    clear hW9 hWZ a5 r0 r1 r2 r3 r4 t0 t1 t2 t3 t4
    obtain ⟨r0, r1, r2, r3, r4, _, _, _, _, _, _⟩ := five_cell a1
    obtain ⟨t0, t1, t2, t3, t4, _, _, _, _, _, _⟩ := five_cell a2
    refine bodyPost_ret (v := .tuple #[(⟨e5, n5, sA5, sc5, s5, qA5, qc5, q5, h5⟩ : LinkV).val, frameV 0 0 0 none 0 0 ⟨#[]⟩, .bool false, .slice A5 L5.length c5, .int .i64 0]) (by simp [results, Tryd.results22, go_sem, r0, r1, r2, r3, r4, t0, t1, t2, t3, t4]) rfl ?_
    exact ⟨⟨e5, n5, sA5, sc5, s5, qA5, qc5, q5, h5⟩, none, 0, A5, c5, L5, (by first | rfl | simp), HD5.out, HP5.out, hI9, Sl.nil, PacketsOwn.in_two HO7.out a3 (by have := HBA.out; have := HO.out; have := HOG.out; omega) (by have := HBA.out; have := HOG.out; omega), hB9⟩)
end Go.Proofs.YtgcapkkgminidaaDoor
namespace Go.Proofs.YtgcapkkgminidaaDoor
open Go.ChangeShapes Go.WideShapes Go.ChangeAt Go.RowKit
set_option maxRecDepth 100000
set_option maxHeartbeats 2000000 in
theorem Heard_ob (w : World) (l : LinkV) (p : PacketV) (hT : Tabs w) (hi : l.In w) (hm : l.Small) (hf : OpIn (· < w.heap.size) w p.f.o.A p.f.o.ps) (hfm : p.f.Small) (hk : linkMay l) (he : packetFault p.d = 0) (h0 : l.e ≠ 0) (h1 : p.ep = l.e) (hA : p.ak < l.n - l.s.length) (hb : p.b = true) :
    Calls Tryd.prog 22 #[l.val, packetV p.ep p.nu p.b p.ak p.f.k p.f.h p.f.e p.f.o.A p.f.o.ps.length p.f.o.c p.f.s] w (RetHear w (fillL ⟨l.e, l.n, (l.s.map FrameV.d), l.q.map FrameV.d, l.h⟩) zeroF.d false (fillP ⟨l.e, l.n, (l.s.map FrameV.d), l.q.map FrameV.d, l.h⟩) 0) := by
  have HC := Lib.hid (fun W hT hi => LinkMay_c W l hT hi hm)
  rw [decide_eq_true hk] at HC
  have HF := Lib.hid (fun W hT hs => PacketFault_c W p.ep p.nu p.b p.ak p.f.k p.f.h p.f.e p.f.o.A p.f.o.c p.f.o.ps p.f.s hT hs hfm.op.len hfm.op.text hfm.text)
  rw [show packetFault ⟨p.ep, p.nu, p.b, p.ak, ⟨p.f.k, p.f.h, p.f.e, p.f.o.ps, p.f.s⟩⟩ = 0 from he] at HF
  have HOP := Lib.hid hf
  have HOW := Lib.hid (fun W hi => LinkCopyO_c W l hi hm)
  have HM := Lib.hid hm
  have HK := Lib.hid hk
  have hpa : 0 ≤ p.ak ∧ p.ak ≤ 1048576 := by
    unfold packetFault at he
    by_cases g : (p.ep < 0 ∨ 1048576 < p.ep) ∨ (p.nu < 0 ∨ 1048576 < p.nu) ∨ (p.ak < 0 ∨ 1048576 < p.ak)
    · rw [if_pos g] at he
      cases he
    · omega
  have HI := Lib.hid hi
  have HT := Lib.hid hT
  obtain ⟨e, n, sA, sc, s, qA, qc, q, hv⟩ := l
  obtain ⟨pe, pn, pb, pa, ⟨fk, fh, fe, ⟨fA, fc, fp⟩, fs⟩⟩ := p
  obtain ⟨D, hD⟩ : ∃ D : LinkD, D = ⟨e, n, (s.map FrameV.d), q.map FrameV.d, hv⟩ := ⟨_, rfl⟩
  dsimp only at *
  rw [← hD]
  have HDD := Lib.hid hD
  have e0 : (e == 0) = false := by simpa using h0
  have e1 : (e != pe) = false := by simpa using h1.symm
  clear hD h0 h1
  subst hb
  obtain ⟨W1, hW1⟩ : ∃ W1, W1 = w.alloc (.cells #[.int .i64 e, .int .i64 n, .slice sA s.length sc, .slice qA q.length qc, .int .i64 hv] 35) := ⟨_, rfl⟩
  obtain ⟨W2, hW2⟩ : ∃ W2, W2 = W1.alloc (.cells #[.int .i64 pe, .int .i64 pn, .bool true, .int .i64 pa, .int .i64 fk, .int .i64 fh, .int .i64 fe, .slice fA fp.length fc, .string fs] 39) := ⟨_, rfl⟩
  obtain ⟨W3, hW3⟩ : ∃ W3, W3 = W2.alloc (.cells #[.int .i64 0, .int .i64 0, .slice none 0 0, .slice none 0 0, .int .i64 0] 35) := ⟨_, rfl⟩
  obtain ⟨WA, hWA⟩ : ∃ WA, WA = W3.alloc (.cells #[.int .i64 0, .int .i64 0, .int .i64 0, .slice none 0 0, .string ⟨#[]⟩] 37) := ⟨_, rfl⟩
  have g1 : W1.heap.size = w.heap.size + 1 := by rw [hW1]; simp
  have g2 : W2.heap.size = W1.heap.size + 1 := by rw [hW2]; simp
  have g3 : W3.heap.size = W2.heap.size + 1 := by rw [hW3]; simp
  have g4 : WA.heap.size = W3.heap.size + 1 := by rw [hWA]; simp
  have k1 : Below w.heap.size w W1 := by rw [hW1]; exact bAlloc (Below.refl _ _) _
  have k2 : Below W1.heap.size W1 W2 := by rw [hW2]; exact bAlloc (Below.refl _ _) _
  have k3 : Below W2.heap.size W2 W3 := by rw [hW3]; exact bAlloc (Below.refl _ _) _
  have k4 : Below W3.heap.size W3 WA := by rw [hWA]; exact bAlloc (Below.refl _ _) _
  have k34 := bThen k3 k4
  have k24 := bThen k2 k34
  have HA0 := Lib.hid (show HearAt w WA W1.heap.size W2.heap.size W3.heap.size ⟨e, n, sA, sc, s, qA, qc, q, hv⟩ ⟨pe, pn, true, pa, ⟨fk, fh, fe, ⟨fA, fc, fp⟩, fs⟩⟩ zeroF from
    ⟨(k24.block _ (by omega)).trans (by rw [hW1]; exact heap_alloc_new _ _), (k34.block _ (by omega)).trans (by rw [hW2]; exact heap_alloc_new _ _), (k4.block _ (by omega)).trans (by rw [hW3]; exact heap_alloc_new _ _), by rw [hWA]; exact heap_alloc_new _ _, bThen k1 k24⟩)
  have HW := Lib.hid (show (((w.alloc (.cells #[.int .i64 e, .int .i64 n, .slice sA s.length sc, .slice qA q.length qc, .int .i64 hv] 35)).alloc (.cells #[.int .i64 pe, .int .i64 pn, .bool true, .int .i64 pa, .int .i64 fk, .int .i64 fh, .int .i64 fe, .slice fA fp.length fc, .string fs] 39)).alloc (.cells #[.int .i64 0, .int .i64 0, .slice none 0 0, .slice none 0 0, .int .i64 0] 35)).alloc (.cells #[.int .i64 0, .int .i64 0, .int .i64 0, .slice none 0 0, .string ⟨#[]⟩] 37) = WA by rw [hWA, hW3, hW2, hW1])
  obtain ⟨Q, hQ⟩ : ∃ Q, Q = W1.heap.size := ⟨_, rfl⟩
  obtain ⟨R, hR⟩ : ∃ R, R = W2.heap.size := ⟨_, rfl⟩
  obtain ⟨F, hF⟩ : ∃ F, F = W3.heap.size := ⟨_, rfl⟩
  have HE1 := Lib.hid (show w.heap.size + 1 + 1 + 1 = F by omega)
  have HE2 := Lib.hid (show w.heap.size + 1 + 1 = R by omega)
  have HE3 := Lib.hid (show w.heap.size + 1 = Q by omega)
  have hord : w.heap.size < Q ∧ Q < R ∧ R < F := by omega
  have HO := Lib.hid hord
  have hFA : F < WA.heap.size := by omega
  have m1 : ¬ R = F := by omega
  have m2 : ¬ F = R := by omega
  rw [← hQ, ← hR, ← hF] at HA0
  clear hQ hR hF k1 k2 k3 k4 k34 k24 g1 g2 g3 g4 hWA hW3 hW2 hW1 hord hi hT hm hk hf hfm he
  go_enter Tryd.func22, Tryd.ntmps22
  go_wp2_with fail
  rw [HW.out, HE1.out, HE2.out, HE3.out]
  refine (HC.out _ (HT.out.later HA0.out.b) (HI.out.later HA0.out.b)).mono ?_
  rintro r w1 ⟨rfl, hb1⟩
  have HA1 := Lib.hid (HA0.out.later hb1)
  clear hb1
  obtain ⟨p0, p1, p2, p3, p4, v0, v1, v2, v3, v4, pz⟩ := five_cell HA1.out.l
  obtain ⟨q0, q1, q2, q3, q4, q5, q6, q7, q8, g0, g1, g2, g3, g4, g5, g6, g7, g8, gz⟩ := nine_cell HA1.out.p
  obtain ⟨r0, r1, r2, r3, r4, j0, j1, j2, j3, j4, rz⟩ := five_cell HA1.out.r
  obtain ⟨t0, t1, t2, t3, t4, k0, k1, k2, k3, k4, tz⟩ := five_cell HA1.out.f
  go_wp2_with fail
  refine (HF.out _ (HT.out.later HA1.out.b) (Sl.later HOP.out HA1.out.b)).mono ?_
  rintro r w2 ⟨rfl, hb2⟩
  have HA2 := Lib.hid (HA1.out.later hb2)
  clear hb2 p0 p1 p2 p3 p4 v0 v1 v2 v3 v4 pz q0 q1 q2 q3 q4 q5 q6 q7 q8 g0 g1 g2 g3 g4 g5 g6 g7 g8 gz r0 r1 r2 r3 r4 j0 j1 j2 j3 j4 rz t0 t1 t2 t3 t4 k0 k1 k2 k3 k4 tz
  obtain ⟨p0, p1, p2, p3, p4, v0, v1, v2, v3, v4, pz⟩ := five_cell HA2.out.l
  obtain ⟨q0, q1, q2, q3, q4, q5, q6, q7, q8, g0, g1, g2, g3, g4, g5, g6, g7, g8, gz⟩ := nine_cell HA2.out.p
  obtain ⟨r0, r1, r2, r3, r4, j0, j1, j2, j3, j4, rz⟩ := five_cell HA2.out.r
  obtain ⟨t0, t1, t2, t3, t4, k0, k1, k2, k3, k4, tz⟩ := five_cell HA2.out.f
  go_wp2_with fail
  refine (HOW.out _ (HI.out.later HA2.out.b)).mono ?_
  rintro r w3 ⟨⟨e3, n3, sA3, sc3, s3, qA3, qc3, q3', h3⟩, mid, rfl, hd3, hmid, hS3, hQ3, hb3⟩
  have hd3' := hd3
  simp only [LinkV.d, LinkD.mk.injEq] at hd3'
  obtain ⟨d1, d2, d3, d4, d5⟩ := hd3'
  have d1 := d1.symm
  have d2 := d2.symm
  have d5 := d5.symm
  subst d1 d2 d5
  have hl3 : s3.length = s.length := by have := congrArg List.length d3; simpa using this
  have hl4 : q3'.length = q.length := by have := congrArg List.length d4; simpa using this
  have hz3 := hb3.size
  obtain ⟨W4, hW4⟩ : ∃ W4, W4 = w3.alloc (.cells #[.int .i64 e, .int .i64 n, .slice sA3 s3.length sc3, .slice qA3 q3'.length qc3, .int .i64 hv] 35) := ⟨_, rfl⟩
  have hb4 : Below w3.heap.size w3 W4 := by rw [hW4]; exact bAlloc (Below.refl _ _) _
  have hX4 : LinkAt W4 w3.heap.size ⟨e, n, sA3, sc3, s3, qA3, qc3, q3', hv⟩ := by rw [hW4]; exact heap_alloc_new _ _
  have HL4 := Lib.hid (LinkSt.plain (l := ⟨e, n, sA3, sc3, s3, qA3, qc3, q3', hv⟩) hS3 hQ3 hmid hb4 hX4)
  have HA3 := Lib.hid (HA2.out.later hb3)
  have HA4 := Lib.hid (HA2.out.later (bThen hb3 hb4))
  have hz4 := hb4.size
  have hXz : w3.heap.size < W4.heap.size := by rw [hW4]; simp
  have HNM := Lib.hid (show ((s.length : Int) < n ∧ n ≤ 1048576) ∧ s.length ≤ 8 ∧ q.length ≤ 1048576 ∧ (0 ≤ hv ∧ hv ≤ 1048576) from ⟨⟨HK.out.2.1.2.1, HK.out.1.2.1.2⟩, HK.out.2.1.1, HM.out.ql, HK.out.1.2.2⟩)
  have HSM := Lib.hid (show (∀ f ∈ s3, f.o.ps.length ≤ 1048576) ∧ ∀ f ∈ q3', f.o.ps.length ≤ 1048576 from
    ⟨fun f hf => (small_d d3 HM.out.s f hf).op.len, fun f hf => (small_d d4 HM.out.q f hf).op.len⟩)
  have H3 := Lib.hid d3
  have H4 := Lib.hid d4
  have HL3 := Lib.hid hl3
  have HLQ := Lib.hid hl4
  have HBA := Lib.hid (show F < w2.heap.size ∧ w2.heap.size ≤ w3.heap.size ∧ w3.heap.size < W4.heap.size from ⟨HA2.out.lt.2.2.2, hz3, hXz⟩)
  have HW4 := Lib.hid hW4
  have HKD := Lib.hid (show kinds D from by
    rw [HDD.out]
    exact ⟨fun f hf => framesOk_kinds HK.out.2.2.1.1 f hf, fun f hf => framesOk_kinds HK.out.2.2.1.2 f hf⟩)
  clear hS3 hQ3 hmid hb3 hb4 hd3 d3 d4 hl3 hl4 hW4 hX4 hz4 hXz p0 p1 p2 p3 p4 v0 v1 v2 v3 v4 pz q0 q1 q2 q3 q4 q5 q6 q7 q8 g0 g1 g2 g3 g4 g5 g6 g7 g8 gz r0 r1 r2 r3 r4 j0 j1 j2 j3 j4 rz t0 t1 t2 t3 t4 k0 k1 k2 k3 k4 tz
  obtain ⟨p0, p1, p2, p3, p4, v0, v1, v2, v3, v4, pz⟩ := five_cell HA3.out.l
  obtain ⟨q0, q1, q2, q3, q4, q5, q6, q7, q8, g0, g1, g2, g3, g4, g5, g6, g7, g8, gz⟩ := nine_cell HA3.out.p
  have n1 : ¬ w3.heap.size = Q := by have := HA3.out.lt; omega
  have n2 : ¬ Q = w3.heap.size := by omega
  have n3 : ¬ w3.heap.size = w.heap.size := by have := HA3.out.lt; omega
  have n4 : ¬ w.heap.size = w3.heap.size := by omega
  have hfirst : wrap64 (n - (s.length : Int)) = n - s.length := wrap_in (by have := HNM.out; omega)
  have hn1 : wrap64 (n - 1) = n - 1 := wrap_in (by have := HNM.out; omega)
  obtain ⟨X, hX⟩ : ∃ X, X = w3.heap.size := ⟨_, rfl⟩
  have HXE := Lib.hid hX
  clear hX
  go_wp2_with fail
  rw [← HW4.out, ← HXE.out]
  refine (In_no pa (n - (s.length : Int)) (n - 1) W4 (.inl (by omega))).mono ?_
  rintro r w5 ⟨rfl, rfl⟩
  have HLS := Lib.hid (show LinkSt W4 w2.heap.size X ⟨e, n, sA3, sc3, s3, qA3, qc3, q3', hv⟩ by rw [HXE.out]; exact HL4.out)
  have HQC := Lib.hid HL4.out.qcap
  have HOX := Lib.hid (show F < X ∧ X < W4.heap.size by have := HBA.out; have := HXE.out; omega)
  clear q0 q1 q2 q3 q4 q5 q6 q7 q8 g0 g1 g2 g3 g4 g5 g6 g7 g8 gz p0 p1 p2 p3 p4 v0 v1 v2 v3 v4 pz n1 n2 n3 n4 hn1
  have HNX := Lib.hid (show ((¬ X = w.heap.size) ∧ (¬ w.heap.size = X)) ∧ ((¬ X = Q) ∧ (¬ Q = X)) ∧ ((¬ X = R) ∧ (¬ R = X)) ∧ ((¬ X = F) ∧ (¬ F = X)) by have := HO.out; have := HOX.out; omega)
  obtain ⟨⟨z1, z2⟩, ⟨z3, z4⟩, ⟨z5, z6⟩, ⟨z7, z8⟩⟩ := HNX.out
  obtain ⟨p0, p1, p2, p3, p4, v0, v1, v2, v3, v4, pz⟩ := five_cell HA4.out.l
  obtain ⟨q0, q1, q2, q3, q4, q5, q6, q7, q8, g0, g1, g2, g3, g4, g5, g6, g7, g8, gz⟩ := nine_cell HA4.out.p
  obtain ⟨x0, x1, x2, x3, x4, y0, y1, y2, y3, y4, hxz⟩ := five_cell HLS.out.at_
  (try dsimp only at x0 x1 x2 x3 x4)
  go_wp2_with fail
  obtain ⟨V, hV⟩ : ∃ V, V = W4 := ⟨_, rfl⟩
  have HVF := Lib.hid (show (fun V => LinkAt V X ⟨e, n, sA3, sc3, s3, qA3, qc3, q3', hv⟩ ∧ (⟨e, n, sA3, sc3, s3, qA3, qc3, q3', hv⟩ : LinkV).In V ∧ LinkV.d ⟨e, n, sA3, sc3, s3, qA3, qc3, q3', hv⟩ = D ∧ (s3.length ≤ s3.length ∧ ∀ f ∈ s3, f.o.ps.length ≤ 1048576) ∧ HearAt w V Q R F ⟨e, n, sA, sc, s, qA, qc, q, hv⟩ ⟨pe, pn, true, pa, ⟨fk, fh, fe, ⟨fA, fc, fp⟩, fs⟩⟩ zeroF ∧ X < V.heap.size) W4 from ⟨HLS.out.at_, HLS.out.in_, by rw [HDD.out]; simp only [LinkV.d, H3.out, H4.out], ⟨Nat.le_refl _, HSM.out.1⟩, HA4.out, HOX.out.2⟩)
  clear p0 p1 p2 p3 p4 v0 v1 v2 v3 v4 pz q0 q1 q2 q3 q4 q5 q6 q7 q8 g0 g1 g2 g3 g4 g5 g6 g7 g8 gz x0 x1 x2 x3 x4 y0 y1 y2 y3 y4 hxz hfirst
  rw [← hV] at HVF
  rw [← hV]
  clear hV
  obtain ⟨hXV, hIV, hDV, hSV, hAV, hzV⟩ := HVF.out
  have HXV := Lib.hid hXV
  have HIV := Lib.hid hIV
  have HDV := Lib.hid hDV
  have HSV := Lib.hid hSV
  have HAV := Lib.hid hAV
  clear hXV hIV hDV hSV hAV HVF
  obtain ⟨W5, hW5⟩ : ∃ W5, W5 = V.alloc (.cells #[.int .i64 0, .int .i64 0, .int .i64 0, .slice none 0 0, .string ⟨#[]⟩] 37) := ⟨_, rfl⟩
  rw [← hW5]
  have hb5 : Below V.heap.size V W5 := by rw [hW5]; exact bAlloc (Below.refl _ _) _
  have HG5 := Lib.hid (show FrameAt W5 V.heap.size 0 0 0 none 0 0 ⟨#[]⟩ by rw [hW5]; exact heap_alloc_new _ _)
  have HA5 := Lib.hid (HAV.out.later hb5)
  have HX5 := Lib.hid ((hb5.block X hzV).trans HXV.out)
  have HI5' := Lib.hid (HIV.out.later hb5)
  obtain ⟨G, hG⟩ : ∃ G, G = V.heap.size := ⟨_, rfl⟩
  rw [← hG] at HG5
  rw [← hG]
  have HOG := Lib.hid (show F < X ∧ X < G ∧ G < W5.heap.size by have := HOX.out; have := (five_cell HG5.out).2.2.2.2.2.2.2.2.2.2; omega)
  have HWV := Lib.hid (show V.heap.size = G ∧ Below V.heap.size V W5 from ⟨hG.symm, hb5⟩)
  clear hG hW5 hb5
  have HFL := Lib.hid (filled_c W5 ⟨e, n, sA3, sc3, s3, qA3, qc3, q3', hv⟩ HI5'.out HQC.out (by have := HNM.out; have := HL3.out; have := HSV.out.1; dsimp only; omega) (by have := HNM.out; dsimp only; omega) (by have := HNM.out; have := HLQ.out; dsimp only; omega) ⟨HSV.out.2, HSM.out.2⟩)
  rw [HDV.out] at HFL
  refine HFL.out.mono ?_
  rintro r w6 ⟨⟨e5, n5, sA5, sc5, s5, qA5, qc5, q5, h5⟩, A5, c5, L5, rfl, hd5, hp5, hi5, ho5, hb6, wm, him, hbm, hom, hzm⟩
  have HD5 := Lib.hid hd5
  have HP5 := Lib.hid hp5
  clear him hbm hom hzm
  
  
  obtain ⟨W7, hW7⟩ : ∃ W7, W7 = w6.alloc (.cells #[.int .i64 e5, .int .i64 n5, .slice sA5 s5.length sc5, .slice qA5 q5.length qc5, .int .i64 h5] 35) := ⟨_, rfl⟩
  have hb7 : Below w6.heap.size w6 W7 := by rw [hW7]; exact bAlloc (Below.refl _ _) _
  have hb67 := bThen hb6 hb7
  have HI7 := Lib.hid (hi5.later hb7)
  have HO7 := Lib.hid (ho5.later hb7)
  
  have HA6 := Lib.hid (HA5.out.later hb6)
  have HG6 := Lib.hid ((hb6.block G (by have := HOG.out; omega)).trans HG5.out)
  have HA7 := Lib.hid (HA5.out.later hb67)
  have HG7 := Lib.hid ((hb67.block G (by have := HOG.out; omega)).trans HG5.out)
  have HY7 := Lib.hid (show LinkAt W7 w6.heap.size ⟨e5, n5, sA5, sc5, s5, qA5, qc5, q5, h5⟩ by rw [hW7]; exact heap_alloc_new _ _)
  have HW7 := Lib.hid hW7
  have hz6 := hb6.size
  have hz7 := hb7.size
  have HGZ := Lib.hid (show G < w6.heap.size by have := HOG.out; omega)
  
  
  
  clear hd5 hp5 hi5 ho5 hb6 hb7 hb67 hW7 HFL
  obtain ⟨p0, p1, p2, p3, p4, v0, v1, v2, v3, v4, pz⟩ := five_cell HA6.out.l
  obtain ⟨q0, q1, q2, q3, q4, q5, q6, q7, q8, g0, g1, g2, g3, g4, g5, g6, g7, g8, gz⟩ := nine_cell HA6.out.p
  obtain ⟨b0, b1, b2, b3, b4, _, _, _, _, _, bz⟩ := five_cell HG6.out
  have HNG := Lib.hid (show ((¬ G = R) ∧ (¬ R = G)) ∧ ((¬ G = F) ∧ (¬ F = G)) ∧ ((¬ w6.heap.size = R) ∧ (¬ R = w6.heap.size)) ∧ ((¬ w6.heap.size = F) ∧ (¬ F = w6.heap.size)) ∧ ((¬ w6.heap.size = Q) ∧ (¬ Q = w6.heap.size)) ∧ ((¬ w6.heap.size = w.heap.size) ∧ (¬ w.heap.size = w6.heap.size)) ∧ ((¬ w6.heap.size = G) ∧ (¬ G = w6.heap.size)) by
    have h1 := HO.out
    have h2 := HOX.out.1
    have h3 := HGZ.out
    have h4 : X < G := by have := HOG.out; omega
    clear hz6 hz7
    refine ⟨⟨?_, ?_⟩, ⟨?_, ?_⟩, ⟨?_, ?_⟩, ⟨?_, ?_⟩, ⟨?_, ?_⟩, ⟨?_, ?_⟩, ?_, ?_⟩ <;> omega)
  go_wp2_with fail
  rw [← HW7.out]
  clear p0 p1 p2 p3 p4 v0 v1 v2 v3 v4 pz q0 q1 q2 q3 q4 q5 q6 q7 q8 g0 g1 g2 g3 g4 g5 g6 g7 g8 gz b0 b1 b2 b3 b4 bz
  obtain ⟨⟨z9, z10⟩, ⟨z11, z12⟩, ⟨z13, z14⟩, ⟨z15, z16⟩, ⟨z17, z18⟩, ⟨z19, z20⟩, ⟨z21, z22⟩⟩ := HNG.out
  obtain ⟨x0, x1, x2, x3, x4, y0, y1, y2, y3, y4, hxz⟩ := five_cell HY7.out
  obtain ⟨b0, b1, b2, b3, b4, _, _, _, _, _, bz⟩ := five_cell HG7.out
  obtain ⟨r0, r1, r2, r3, r4, j0, j1, j2, j3, j4, rz⟩ := five_cell HA7.out.r
  obtain ⟨t0, t1, t2, t3, t4, k0, k1, k2, k3, k4, tz⟩ := five_cell HA7.out.f
  (try dsimp only at x0 x1 x2 x3 x4 t0 t1 t2 t3 t4)
  
  go_region
  go_wp2_with fail
  obtain ⟨W9, hW9⟩ : ∃ W9, W9 = ((((((((((W7).setCell ⟨R, 0, none⟩ (.int .i64 e5)).setCell ⟨R, 1, none⟩ (.int .i64 n5)).setCell ⟨R, 2, none⟩ (.slice sA5 s5.length sc5)).setCell ⟨R, 3, none⟩ (.slice qA5 q5.length qc5)).setCell ⟨R, 4, none⟩ (.int .i64 h5)).setCell ⟨F, 0, none⟩ (.int .i64 0)).setCell ⟨F, 1, none⟩ (.int .i64 0)).setCell ⟨F, 2, none⟩ (.int .i64 0)).setCell ⟨F, 3, none⟩ (.slice none 0 0)).setCell ⟨F, 4, none⟩ (.string ⟨#[]⟩) := ⟨_, rfl⟩
  rw [← hW9]
  obtain ⟨WZ, hWZ⟩ : ∃ WZ, WZ = W9.drew := ⟨_, rfl⟩
  rw [← hWZ]
  obtain ⟨a1, a2, a3, a5⟩ := heard_sets HA7.out.r HA7.out.f m1 hW9 hWZ
  have hI9 := a5 _ HI7.out (by rw [HD5.out]; exact kinds_fill HKD.out)
  have hB9 := HA7.out.b.trans (a3.below (base := w.heap.size) (by have := HO.out; omega) (by have := HO.out; omega) HA7.out.b.size)
  clear hW9 hWZ a5 r0 r1 r2 r3 r4 t0 t1 t2 t3 t4
  obtain ⟨r0, r1, r2, r3, r4, _, _, _, _, _, _⟩ := five_cell a1
  obtain ⟨t0, t1, t2, t3, t4, _, _, _, _, _, _⟩ := five_cell a2
  refine bodyPost_ret (v := .tuple #[(⟨e5, n5, sA5, sc5, s5, qA5, qc5, q5, h5⟩ : LinkV).val, frameV 0 0 0 none 0 0 ⟨#[]⟩, .bool false, .slice A5 L5.length c5, .int .i64 0]) (by simp [results, Tryd.results22, go_sem, r0, r1, r2, r3, r4, t0, t1, t2, t3, t4]) rfl ?_
  exact ⟨⟨e5, n5, sA5, sc5, s5, qA5, qc5, q5, h5⟩, none, 0, A5, c5, L5, (by first | rfl | simp), HD5.out, HP5.out, hI9, Sl.nil, PacketsOwn.in_two HO7.out a3 (by have := HBA.out; have := HO.out; have := HOG.out; omega) (by have := HBA.out; have := HOG.out; omega), hB9⟩
end Go.Proofs.YtgcapkkgminidaaDoor
namespace Go.Proofs.YtgcapkkgminidaaDoor
open Go.ChangeShapes Go.WideShapes Go.ChangeAt Go.RowKit
set_option maxRecDepth 100000
set_option maxHeartbeats 2000000 in
theorem Heard_xb (w : World) (l : LinkV) (p : PacketV) (hT : Tabs w) (hi : l.In w) (hm : l.Small) (hf : OpIn (· < w.heap.size) w p.f.o.A p.f.o.ps) (hfm : p.f.Small) (hk : linkMay l) (he : packetFault p.d = 0) (h0 : l.e ≠ 0) (h1 : p.ep = l.e) (hA : l.n - l.s.length ≤ p.ak ∧ l.n ≤ p.ak) (hb : p.b = true) :
    Calls Tryd.prog 22 #[l.val, packetV p.ep p.nu p.b p.ak p.f.k p.f.h p.f.e p.f.o.A p.f.o.ps.length p.f.o.c p.f.s] w (RetHear w (fillL ⟨l.e, l.n, (l.s.map FrameV.d), l.q.map FrameV.d, l.h⟩) zeroF.d false (fillP ⟨l.e, l.n, (l.s.map FrameV.d), l.q.map FrameV.d, l.h⟩) 0) := by
  have HC := Lib.hid (fun W hT hi => LinkMay_c W l hT hi hm)
  rw [decide_eq_true hk] at HC
  have HF := Lib.hid (fun W hT hs => PacketFault_c W p.ep p.nu p.b p.ak p.f.k p.f.h p.f.e p.f.o.A p.f.o.c p.f.o.ps p.f.s hT hs hfm.op.len hfm.op.text hfm.text)
  rw [show packetFault ⟨p.ep, p.nu, p.b, p.ak, ⟨p.f.k, p.f.h, p.f.e, p.f.o.ps, p.f.s⟩⟩ = 0 from he] at HF
  have HOP := Lib.hid hf
  have HOW := Lib.hid (fun W hi => LinkCopyO_c W l hi hm)
  have HM := Lib.hid hm
  have HK := Lib.hid hk
  have hpa : 0 ≤ p.ak ∧ p.ak ≤ 1048576 := by
    unfold packetFault at he
    by_cases g : (p.ep < 0 ∨ 1048576 < p.ep) ∨ (p.nu < 0 ∨ 1048576 < p.nu) ∨ (p.ak < 0 ∨ 1048576 < p.ak)
    · rw [if_pos g] at he
      cases he
    · omega
  have HI := Lib.hid hi
  have HT := Lib.hid hT
  obtain ⟨e, n, sA, sc, s, qA, qc, q, hv⟩ := l
  obtain ⟨pe, pn, pb, pa, ⟨fk, fh, fe, ⟨fA, fc, fp⟩, fs⟩⟩ := p
  obtain ⟨D, hD⟩ : ∃ D : LinkD, D = ⟨e, n, (s.map FrameV.d), q.map FrameV.d, hv⟩ := ⟨_, rfl⟩
  dsimp only at *
  rw [← hD]
  have HDD := Lib.hid hD
  have e0 : (e == 0) = false := by simpa using h0
  have e1 : (e != pe) = false := by simpa using h1.symm
  clear hD h0 h1
  subst hb
  obtain ⟨W1, hW1⟩ : ∃ W1, W1 = w.alloc (.cells #[.int .i64 e, .int .i64 n, .slice sA s.length sc, .slice qA q.length qc, .int .i64 hv] 35) := ⟨_, rfl⟩
  obtain ⟨W2, hW2⟩ : ∃ W2, W2 = W1.alloc (.cells #[.int .i64 pe, .int .i64 pn, .bool true, .int .i64 pa, .int .i64 fk, .int .i64 fh, .int .i64 fe, .slice fA fp.length fc, .string fs] 39) := ⟨_, rfl⟩
  obtain ⟨W3, hW3⟩ : ∃ W3, W3 = W2.alloc (.cells #[.int .i64 0, .int .i64 0, .slice none 0 0, .slice none 0 0, .int .i64 0] 35) := ⟨_, rfl⟩
  obtain ⟨WA, hWA⟩ : ∃ WA, WA = W3.alloc (.cells #[.int .i64 0, .int .i64 0, .int .i64 0, .slice none 0 0, .string ⟨#[]⟩] 37) := ⟨_, rfl⟩
  have g1 : W1.heap.size = w.heap.size + 1 := by rw [hW1]; simp
  have g2 : W2.heap.size = W1.heap.size + 1 := by rw [hW2]; simp
  have g3 : W3.heap.size = W2.heap.size + 1 := by rw [hW3]; simp
  have g4 : WA.heap.size = W3.heap.size + 1 := by rw [hWA]; simp
  have k1 : Below w.heap.size w W1 := by rw [hW1]; exact bAlloc (Below.refl _ _) _
  have k2 : Below W1.heap.size W1 W2 := by rw [hW2]; exact bAlloc (Below.refl _ _) _
  have k3 : Below W2.heap.size W2 W3 := by rw [hW3]; exact bAlloc (Below.refl _ _) _
  have k4 : Below W3.heap.size W3 WA := by rw [hWA]; exact bAlloc (Below.refl _ _) _
  have k34 := bThen k3 k4
  have k24 := bThen k2 k34
  have HA0 := Lib.hid (show HearAt w WA W1.heap.size W2.heap.size W3.heap.size ⟨e, n, sA, sc, s, qA, qc, q, hv⟩ ⟨pe, pn, true, pa, ⟨fk, fh, fe, ⟨fA, fc, fp⟩, fs⟩⟩ zeroF from
    ⟨(k24.block _ (by omega)).trans (by rw [hW1]; exact heap_alloc_new _ _), (k34.block _ (by omega)).trans (by rw [hW2]; exact heap_alloc_new _ _), (k4.block _ (by omega)).trans (by rw [hW3]; exact heap_alloc_new _ _), by rw [hWA]; exact heap_alloc_new _ _, bThen k1 k24⟩)
  have HW := Lib.hid (show (((w.alloc (.cells #[.int .i64 e, .int .i64 n, .slice sA s.length sc, .slice qA q.length qc, .int .i64 hv] 35)).alloc (.cells #[.int .i64 pe, .int .i64 pn, .bool true, .int .i64 pa, .int .i64 fk, .int .i64 fh, .int .i64 fe, .slice fA fp.length fc, .string fs] 39)).alloc (.cells #[.int .i64 0, .int .i64 0, .slice none 0 0, .slice none 0 0, .int .i64 0] 35)).alloc (.cells #[.int .i64 0, .int .i64 0, .int .i64 0, .slice none 0 0, .string ⟨#[]⟩] 37) = WA by rw [hWA, hW3, hW2, hW1])
  obtain ⟨Q, hQ⟩ : ∃ Q, Q = W1.heap.size := ⟨_, rfl⟩
  obtain ⟨R, hR⟩ : ∃ R, R = W2.heap.size := ⟨_, rfl⟩
  obtain ⟨F, hF⟩ : ∃ F, F = W3.heap.size := ⟨_, rfl⟩
  have HE1 := Lib.hid (show w.heap.size + 1 + 1 + 1 = F by omega)
  have HE2 := Lib.hid (show w.heap.size + 1 + 1 = R by omega)
  have HE3 := Lib.hid (show w.heap.size + 1 = Q by omega)
  have hord : w.heap.size < Q ∧ Q < R ∧ R < F := by omega
  have HO := Lib.hid hord
  have hFA : F < WA.heap.size := by omega
  have m1 : ¬ R = F := by omega
  have m2 : ¬ F = R := by omega
  rw [← hQ, ← hR, ← hF] at HA0
  clear hQ hR hF k1 k2 k3 k4 k34 k24 g1 g2 g3 g4 hWA hW3 hW2 hW1 hord hi hT hm hk hf hfm he
  go_enter Tryd.func22, Tryd.ntmps22
  go_wp2_with fail
  rw [HW.out, HE1.out, HE2.out, HE3.out]
  refine (HC.out _ (HT.out.later HA0.out.b) (HI.out.later HA0.out.b)).mono ?_
  rintro r w1 ⟨rfl, hb1⟩
  have HA1 := Lib.hid (HA0.out.later hb1)
  clear hb1
  obtain ⟨p0, p1, p2, p3, p4, v0, v1, v2, v3, v4, pz⟩ := five_cell HA1.out.l
  obtain ⟨q0, q1, q2, q3, q4, q5, q6, q7, q8, g0, g1, g2, g3, g4, g5, g6, g7, g8, gz⟩ := nine_cell HA1.out.p
  obtain ⟨r0, r1, r2, r3, r4, j0, j1, j2, j3, j4, rz⟩ := five_cell HA1.out.r
  obtain ⟨t0, t1, t2, t3, t4, k0, k1, k2, k3, k4, tz⟩ := five_cell HA1.out.f
  go_wp2_with fail
  refine (HF.out _ (HT.out.later HA1.out.b) (Sl.later HOP.out HA1.out.b)).mono ?_
  rintro r w2 ⟨rfl, hb2⟩
  have HA2 := Lib.hid (HA1.out.later hb2)
  clear hb2 p0 p1 p2 p3 p4 v0 v1 v2 v3 v4 pz q0 q1 q2 q3 q4 q5 q6 q7 q8 g0 g1 g2 g3 g4 g5 g6 g7 g8 gz r0 r1 r2 r3 r4 j0 j1 j2 j3 j4 rz t0 t1 t2 t3 t4 k0 k1 k2 k3 k4 tz
  obtain ⟨p0, p1, p2, p3, p4, v0, v1, v2, v3, v4, pz⟩ := five_cell HA2.out.l
  obtain ⟨q0, q1, q2, q3, q4, q5, q6, q7, q8, g0, g1, g2, g3, g4, g5, g6, g7, g8, gz⟩ := nine_cell HA2.out.p
  obtain ⟨r0, r1, r2, r3, r4, j0, j1, j2, j3, j4, rz⟩ := five_cell HA2.out.r
  obtain ⟨t0, t1, t2, t3, t4, k0, k1, k2, k3, k4, tz⟩ := five_cell HA2.out.f
  go_wp2_with fail
  refine (HOW.out _ (HI.out.later HA2.out.b)).mono ?_
  rintro r w3 ⟨⟨e3, n3, sA3, sc3, s3, qA3, qc3, q3', h3⟩, mid, rfl, hd3, hmid, hS3, hQ3, hb3⟩
  have hd3' := hd3
  simp only [LinkV.d, LinkD.mk.injEq] at hd3'
  obtain ⟨d1, d2, d3, d4, d5⟩ := hd3'
  have d1 := d1.symm
  have d2 := d2.symm
  have d5 := d5.symm
  subst d1 d2 d5
  have hl3 : s3.length = s.length := by have := congrArg List.length d3; simpa using this
  have hl4 : q3'.length = q.length := by have := congrArg List.length d4; simpa using this
  have hz3 := hb3.size
  obtain ⟨W4, hW4⟩ : ∃ W4, W4 = w3.alloc (.cells #[.int .i64 e, .int .i64 n, .slice sA3 s3.length sc3, .slice qA3 q3'.length qc3, .int .i64 hv] 35) := ⟨_, rfl⟩
  have hb4 : Below w3.heap.size w3 W4 := by rw [hW4]; exact bAlloc (Below.refl _ _) _
  have hX4 : LinkAt W4 w3.heap.size ⟨e, n, sA3, sc3, s3, qA3, qc3, q3', hv⟩ := by rw [hW4]; exact heap_alloc_new _ _
  have HL4 := Lib.hid (LinkSt.plain (l := ⟨e, n, sA3, sc3, s3, qA3, qc3, q3', hv⟩) hS3 hQ3 hmid hb4 hX4)
  have HA3 := Lib.hid (HA2.out.later hb3)
  have HA4 := Lib.hid (HA2.out.later (bThen hb3 hb4))
  have hz4 := hb4.size
  have hXz : w3.heap.size < W4.heap.size := by rw [hW4]; simp
  have HNM := Lib.hid (show ((s.length : Int) < n ∧ n ≤ 1048576) ∧ s.length ≤ 8 ∧ q.length ≤ 1048576 ∧ (0 ≤ hv ∧ hv ≤ 1048576) from ⟨⟨HK.out.2.1.2.1, HK.out.1.2.1.2⟩, HK.out.2.1.1, HM.out.ql, HK.out.1.2.2⟩)
  have HSM := Lib.hid (show (∀ f ∈ s3, f.o.ps.length ≤ 1048576) ∧ ∀ f ∈ q3', f.o.ps.length ≤ 1048576 from
    ⟨fun f hf => (small_d d3 HM.out.s f hf).op.len, fun f hf => (small_d d4 HM.out.q f hf).op.len⟩)
  have H3 := Lib.hid d3
  have H4 := Lib.hid d4
  have HL3 := Lib.hid hl3
  have HLQ := Lib.hid hl4
  have HBA := Lib.hid (show F < w2.heap.size ∧ w2.heap.size ≤ w3.heap.size ∧ w3.heap.size < W4.heap.size from ⟨HA2.out.lt.2.2.2, hz3, hXz⟩)
  have HW4 := Lib.hid hW4
  have HKD := Lib.hid (show kinds D from by
    rw [HDD.out]
    exact ⟨fun f hf => framesOk_kinds HK.out.2.2.1.1 f hf, fun f hf => framesOk_kinds HK.out.2.2.1.2 f hf⟩)
  clear hS3 hQ3 hmid hb3 hb4 hd3 d3 d4 hl3 hl4 hW4 hX4 hz4 hXz p0 p1 p2 p3 p4 v0 v1 v2 v3 v4 pz q0 q1 q2 q3 q4 q5 q6 q7 q8 g0 g1 g2 g3 g4 g5 g6 g7 g8 gz r0 r1 r2 r3 r4 j0 j1 j2 j3 j4 rz t0 t1 t2 t3 t4 k0 k1 k2 k3 k4 tz
  obtain ⟨p0, p1, p2, p3, p4, v0, v1, v2, v3, v4, pz⟩ := five_cell HA3.out.l
  obtain ⟨q0, q1, q2, q3, q4, q5, q6, q7, q8, g0, g1, g2, g3, g4, g5, g6, g7, g8, gz⟩ := nine_cell HA3.out.p
  have n1 : ¬ w3.heap.size = Q := by have := HA3.out.lt; omega
  have n2 : ¬ Q = w3.heap.size := by omega
  have n3 : ¬ w3.heap.size = w.heap.size := by have := HA3.out.lt; omega
  have n4 : ¬ w.heap.size = w3.heap.size := by omega
  have hfirst : wrap64 (n - (s.length : Int)) = n - s.length := wrap_in (by have := HNM.out; omega)
  have hn1 : wrap64 (n - 1) = n - 1 := wrap_in (by have := HNM.out; omega)
  obtain ⟨X, hX⟩ : ∃ X, X = w3.heap.size := ⟨_, rfl⟩
  have HXE := Lib.hid hX
  clear hX
  go_wp2_with fail
  rw [← HW4.out, ← HXE.out]
  refine (In_no pa (n - (s.length : Int)) (n - 1) W4 (.inr (by omega))).mono ?_
  rintro r w5 ⟨rfl, rfl⟩
  have HLS := Lib.hid (show LinkSt W4 w2.heap.size X ⟨e, n, sA3, sc3, s3, qA3, qc3, q3', hv⟩ by rw [HXE.out]; exact HL4.out)
  have HQC := Lib.hid HL4.out.qcap
  have HOX := Lib.hid (show F < X ∧ X < W4.heap.size by have := HBA.out; have := HXE.out; omega)
  clear q0 q1 q2 q3 q4 q5 q6 q7 q8 g0 g1 g2 g3 g4 g5 g6 g7 g8 gz p0 p1 p2 p3 p4 v0 v1 v2 v3 v4 pz n1 n2 n3 n4 hn1
  have HNX := Lib.hid (show ((¬ X = w.heap.size) ∧ (¬ w.heap.size = X)) ∧ ((¬ X = Q) ∧ (¬ Q = X)) ∧ ((¬ X = R) ∧ (¬ R = X)) ∧ ((¬ X = F) ∧ (¬ F = X)) by have := HO.out; have := HOX.out; omega)
  obtain ⟨⟨z1, z2⟩, ⟨z3, z4⟩, ⟨z5, z6⟩, ⟨z7, z8⟩⟩ := HNX.out
  obtain ⟨p0, p1, p2, p3, p4, v0, v1, v2, v3, v4, pz⟩ := five_cell HA4.out.l
  obtain ⟨q0, q1, q2, q3, q4, q5, q6, q7, q8, g0, g1, g2, g3, g4, g5, g6, g7, g8, gz⟩ := nine_cell HA4.out.p
  obtain ⟨x0, x1, x2, x3, x4, y0, y1, y2, y3, y4, hxz⟩ := five_cell HLS.out.at_
  (try dsimp only at x0 x1 x2 x3 x4)
  go_wp2_with fail
  obtain ⟨V, hV⟩ : ∃ V, V = W4 := ⟨_, rfl⟩
  have HVF := Lib.hid (show (fun V => LinkAt V X ⟨e, n, sA3, sc3, s3, qA3, qc3, q3', hv⟩ ∧ (⟨e, n, sA3, sc3, s3, qA3, qc3, q3', hv⟩ : LinkV).In V ∧ LinkV.d ⟨e, n, sA3, sc3, s3, qA3, qc3, q3', hv⟩ = D ∧ (s3.length ≤ s3.length ∧ ∀ f ∈ s3, f.o.ps.length ≤ 1048576) ∧ HearAt w V Q R F ⟨e, n, sA, sc, s, qA, qc, q, hv⟩ ⟨pe, pn, true, pa, ⟨fk, fh, fe, ⟨fA, fc, fp⟩, fs⟩⟩ zeroF ∧ X < V.heap.size) W4 from ⟨HLS.out.at_, HLS.out.in_, by rw [HDD.out]; simp only [LinkV.d, H3.out, H4.out], ⟨Nat.le_refl _, HSM.out.1⟩, HA4.out, HOX.out.2⟩)
  clear p0 p1 p2 p3 p4 v0 v1 v2 v3 v4 pz q0 q1 q2 q3 q4 q5 q6 q7 q8 g0 g1 g2 g3 g4 g5 g6 g7 g8 gz x0 x1 x2 x3 x4 y0 y1 y2 y3 y4 hxz hfirst
  rw [← hV] at HVF
  rw [← hV]
  clear hV
  obtain ⟨hXV, hIV, hDV, hSV, hAV, hzV⟩ := HVF.out
  have HXV := Lib.hid hXV
  have HIV := Lib.hid hIV
  have HDV := Lib.hid hDV
  have HSV := Lib.hid hSV
  have HAV := Lib.hid hAV
  clear hXV hIV hDV hSV hAV HVF
  obtain ⟨W5, hW5⟩ : ∃ W5, W5 = V.alloc (.cells #[.int .i64 0, .int .i64 0, .int .i64 0, .slice none 0 0, .string ⟨#[]⟩] 37) := ⟨_, rfl⟩
  rw [← hW5]
  have hb5 : Below V.heap.size V W5 := by rw [hW5]; exact bAlloc (Below.refl _ _) _
  have HG5 := Lib.hid (show FrameAt W5 V.heap.size 0 0 0 none 0 0 ⟨#[]⟩ by rw [hW5]; exact heap_alloc_new _ _)
  have HA5 := Lib.hid (HAV.out.later hb5)
  have HX5 := Lib.hid ((hb5.block X hzV).trans HXV.out)
  have HI5' := Lib.hid (HIV.out.later hb5)
  obtain ⟨G, hG⟩ : ∃ G, G = V.heap.size := ⟨_, rfl⟩
  rw [← hG] at HG5
  rw [← hG]
  have HOG := Lib.hid (show F < X ∧ X < G ∧ G < W5.heap.size by have := HOX.out; have := (five_cell HG5.out).2.2.2.2.2.2.2.2.2.2; omega)
  have HWV := Lib.hid (show V.heap.size = G ∧ Below V.heap.size V W5 from ⟨hG.symm, hb5⟩)
  clear hG hW5 hb5
  have HFL := Lib.hid (filled_c W5 ⟨e, n, sA3, sc3, s3, qA3, qc3, q3', hv⟩ HI5'.out HQC.out (by have := HNM.out; have := HL3.out; have := HSV.out.1; dsimp only; omega) (by have := HNM.out; dsimp only; omega) (by have := HNM.out; have := HLQ.out; dsimp only; omega) ⟨HSV.out.2, HSM.out.2⟩)
  rw [HDV.out] at HFL
  refine HFL.out.mono ?_
  rintro r w6 ⟨⟨e5, n5, sA5, sc5, s5, qA5, qc5, q5, h5⟩, A5, c5, L5, rfl, hd5, hp5, hi5, ho5, hb6, wm, him, hbm, hom, hzm⟩
  have HD5 := Lib.hid hd5
  have HP5 := Lib.hid hp5
  clear him hbm hom hzm
  
  
  obtain ⟨W7, hW7⟩ : ∃ W7, W7 = w6.alloc (.cells #[.int .i64 e5, .int .i64 n5, .slice sA5 s5.length sc5, .slice qA5 q5.length qc5, .int .i64 h5] 35) := ⟨_, rfl⟩
  have hb7 : Below w6.heap.size w6 W7 := by rw [hW7]; exact bAlloc (Below.refl _ _) _
  have hb67 := bThen hb6 hb7
  have HI7 := Lib.hid (hi5.later hb7)
  have HO7 := Lib.hid (ho5.later hb7)
  
  have HA6 := Lib.hid (HA5.out.later hb6)
  have HG6 := Lib.hid ((hb6.block G (by have := HOG.out; omega)).trans HG5.out)
  have HA7 := Lib.hid (HA5.out.later hb67)
  have HG7 := Lib.hid ((hb67.block G (by have := HOG.out; omega)).trans HG5.out)
  have HY7 := Lib.hid (show LinkAt W7 w6.heap.size ⟨e5, n5, sA5, sc5, s5, qA5, qc5, q5, h5⟩ by rw [hW7]; exact heap_alloc_new _ _)
  have HW7 := Lib.hid hW7
  have hz6 := hb6.size
  have hz7 := hb7.size
  have HGZ := Lib.hid (show G < w6.heap.size by have := HOG.out; omega)
  
  
  
  clear hd5 hp5 hi5 ho5 hb6 hb7 hb67 hW7 HFL
  obtain ⟨p0, p1, p2, p3, p4, v0, v1, v2, v3, v4, pz⟩ := five_cell HA6.out.l
  obtain ⟨q0, q1, q2, q3, q4, q5, q6, q7, q8, g0, g1, g2, g3, g4, g5, g6, g7, g8, gz⟩ := nine_cell HA6.out.p
  obtain ⟨b0, b1, b2, b3, b4, _, _, _, _, _, bz⟩ := five_cell HG6.out
  have HNG := Lib.hid (show ((¬ G = R) ∧ (¬ R = G)) ∧ ((¬ G = F) ∧ (¬ F = G)) ∧ ((¬ w6.heap.size = R) ∧ (¬ R = w6.heap.size)) ∧ ((¬ w6.heap.size = F) ∧ (¬ F = w6.heap.size)) ∧ ((¬ w6.heap.size = Q) ∧ (¬ Q = w6.heap.size)) ∧ ((¬ w6.heap.size = w.heap.size) ∧ (¬ w.heap.size = w6.heap.size)) ∧ ((¬ w6.heap.size = G) ∧ (¬ G = w6.heap.size)) by
    have h1 := HO.out
    have h2 := HOX.out.1
    have h3 := HGZ.out
    have h4 : X < G := by have := HOG.out; omega
    clear hz6 hz7
    refine ⟨⟨?_, ?_⟩, ⟨?_, ?_⟩, ⟨?_, ?_⟩, ⟨?_, ?_⟩, ⟨?_, ?_⟩, ⟨?_, ?_⟩, ?_, ?_⟩ <;> omega)
  go_wp2_with fail
  rw [← HW7.out]
  clear p0 p1 p2 p3 p4 v0 v1 v2 v3 v4 pz q0 q1 q2 q3 q4 q5 q6 q7 q8 g0 g1 g2 g3 g4 g5 g6 g7 g8 gz b0 b1 b2 b3 b4 bz
  obtain ⟨⟨z9, z10⟩, ⟨z11, z12⟩, ⟨z13, z14⟩, ⟨z15, z16⟩, ⟨z17, z18⟩, ⟨z19, z20⟩, ⟨z21, z22⟩⟩ := HNG.out
  obtain ⟨x0, x1, x2, x3, x4, y0, y1, y2, y3, y4, hxz⟩ := five_cell HY7.out
  obtain ⟨b0, b1, b2, b3, b4, _, _, _, _, _, bz⟩ := five_cell HG7.out
  obtain ⟨r0, r1, r2, r3, r4, j0, j1, j2, j3, j4, rz⟩ := five_cell HA7.out.r
  obtain ⟨t0, t1, t2, t3, t4, k0, k1, k2, k3, k4, tz⟩ := five_cell HA7.out.f
  (try dsimp only at x0 x1 x2 x3 x4 t0 t1 t2 t3 t4)
  
  go_region
  go_wp2_with fail
  obtain ⟨W9, hW9⟩ : ∃ W9, W9 = ((((((((((W7).setCell ⟨R, 0, none⟩ (.int .i64 e5)).setCell ⟨R, 1, none⟩ (.int .i64 n5)).setCell ⟨R, 2, none⟩ (.slice sA5 s5.length sc5)).setCell ⟨R, 3, none⟩ (.slice qA5 q5.length qc5)).setCell ⟨R, 4, none⟩ (.int .i64 h5)).setCell ⟨F, 0, none⟩ (.int .i64 0)).setCell ⟨F, 1, none⟩ (.int .i64 0)).setCell ⟨F, 2, none⟩ (.int .i64 0)).setCell ⟨F, 3, none⟩ (.slice none 0 0)).setCell ⟨F, 4, none⟩ (.string ⟨#[]⟩) := ⟨_, rfl⟩
  rw [← hW9]
  obtain ⟨WZ, hWZ⟩ : ∃ WZ, WZ = W9.drew := ⟨_, rfl⟩
  rw [← hWZ]
  obtain ⟨a1, a2, a3, a5⟩ := heard_sets HA7.out.r HA7.out.f m1 hW9 hWZ
  have hI9 := a5 _ HI7.out (by rw [HD5.out]; exact kinds_fill HKD.out)
  have hB9 := HA7.out.b.trans (a3.below (base := w.heap.size) (by have := HO.out; omega) (by have := HO.out; omega) HA7.out.b.size)
  clear hW9 hWZ a5 r0 r1 r2 r3 r4 t0 t1 t2 t3 t4
  obtain ⟨r0, r1, r2, r3, r4, _, _, _, _, _, _⟩ := five_cell a1
  obtain ⟨t0, t1, t2, t3, t4, _, _, _, _, _, _⟩ := five_cell a2
  refine bodyPost_ret (v := .tuple #[(⟨e5, n5, sA5, sc5, s5, qA5, qc5, q5, h5⟩ : LinkV).val, frameV 0 0 0 none 0 0 ⟨#[]⟩, .bool false, .slice A5 L5.length c5, .int .i64 0]) (by simp [results, Tryd.results22, go_sem, r0, r1, r2, r3, r4, t0, t1, t2, t3, t4]) rfl ?_
  exact ⟨⟨e5, n5, sA5, sc5, s5, qA5, qc5, q5, h5⟩, none, 0, A5, c5, L5, (by first | rfl | simp), HD5.out, HP5.out, hI9, Sl.nil, PacketsOwn.in_two HO7.out a3 (by have := HBA.out; have := HO.out; have := HOG.out; omega) (by have := HBA.out; have := HOG.out; omega), hB9⟩
end Go.Proofs.YtgcapkkgminidaaDoor
namespace Go.Proofs.YtgcapkkgminidaaDoor
open Go.ChangeShapes Go.WideShapes Go.ChangeAt Go.RowKit
set_option maxRecDepth 100000
set_option maxHeartbeats 2000000 in
theorem Heard_it (w : World) (l : LinkV) (p : PacketV) (hT : Tabs w) (hi : l.In w) (hm : l.Small) (hf : OpIn (· < w.heap.size) w p.f.o.A p.f.o.ps) (hfm : p.f.Small) (hk : linkMay l) (he : packetFault p.d = 0) (h0 : l.e ≠ 0) (h1 : p.ep = l.e) (hsc : l.s.length ≤ l.sc) (K : Nat) (hK : (K : Int) = p.ak - (l.n - l.s.length) + 1 ∧ 1 ≤ K ∧ K ≤ l.s.length) (hb : p.b = false) (hn : p.nu = l.h + 1) (hh : l.h < 1048576) :
    Calls Tryd.prog 22 #[l.val, packetV p.ep p.nu p.b p.ak p.f.k p.f.h p.f.e p.f.o.A p.f.o.ps.length p.f.o.c p.f.s] w (RetHear w (fillL ⟨l.e, l.n, ((l.s.map FrameV.d).drop K), l.q.map FrameV.d, (l.h + 1)⟩) p.f.d true (fillP ⟨l.e, l.n, ((l.s.map FrameV.d).drop K), l.q.map FrameV.d, (l.h + 1)⟩ ++ [bareX ⟨l.e, l.n, ((l.s.map FrameV.d).drop K), l.q.map FrameV.d, (l.h + 1)⟩]) 0) := by
  have HC := Lib.hid (fun W hT hi => LinkMay_c W l hT hi hm)
  rw [decide_eq_true hk] at HC
  have HF := Lib.hid (fun W hT hs => PacketFault_c W p.ep p.nu p.b p.ak p.f.k p.f.h p.f.e p.f.o.A p.f.o.c p.f.o.ps p.f.s hT hs hfm.op.len hfm.op.text hfm.text)
  rw [show packetFault ⟨p.ep, p.nu, p.b, p.ak, ⟨p.f.k, p.f.h, p.f.e, p.f.o.ps, p.f.s⟩⟩ = 0 from he] at HF
  have HOP := Lib.hid hf
  have HOW := Lib.hid (fun W hi => LinkCopyO_c W l hi hm)
  have HM := Lib.hid hm
  have HK := Lib.hid hk
  have hpa : 0 ≤ p.ak ∧ p.ak ≤ 1048576 := by
    unfold packetFault at he
    by_cases g : (p.ep < 0 ∨ 1048576 < p.ep) ∨ (p.nu < 0 ∨ 1048576 < p.nu) ∨ (p.ak < 0 ∨ 1048576 < p.ak)
    · rw [if_pos g] at he
      cases he
    · omega
  have HSC := Lib.hid hsc
  clear hsc
  have HFC := Lib.hid (fun W A c (hs : FramesIn W A (l.s.drop K)) => (show Calls Tryd.prog 57 #[.slice A (l.s.length - K) c] W (RetFrames W ((l.s.drop K).map FrameV.d)) from by rw [← List.length_drop]; exact framesCopy_c W A c (l.s.drop K) hs (by rw [List.length_drop]; have := hm.sl; omega) (fun f hf => (hm.s f (List.mem_of_mem_drop hf)).op.len)))
  have HCF := Lib.hid (fun W hs => FrameCopy_c W p.f.k p.f.h p.f.e p.f.o.A p.f.o.c p.f.o.ps p.f.s hs hfm.op.len)
  obtain ⟨i0, hi0, hz0, hz1, hz2⟩ := info_parts infoPacket
  have HI := Lib.hid hi
  have HT := Lib.hid hT
  obtain ⟨e, n, sA, sc, s, qA, qc, q, hv⟩ := l
  obtain ⟨pe, pn, pb, pa, ⟨fk, fh, fe, ⟨fA, fc, fp⟩, fs⟩⟩ := p
  obtain ⟨D, hD⟩ : ∃ D : LinkD, D = ⟨e, n, ((s.map FrameV.d).drop K), q.map FrameV.d, (hv + 1)⟩ := ⟨_, rfl⟩
  dsimp only at *
  rw [← hD]
  have HDD := Lib.hid hD
  have e0 : (e == 0) = false := by simpa using h0
  have e1 : (e != pe) = false := by simpa using h1.symm
  clear hD h0 h1
  subst hb
  subst hn
  obtain ⟨W1, hW1⟩ : ∃ W1, W1 = w.alloc (.cells #[.int .i64 e, .int .i64 n, .slice sA s.length sc, .slice qA q.length qc, .int .i64 hv] 35) := ⟨_, rfl⟩
  obtain ⟨W2, hW2⟩ : ∃ W2, W2 = W1.alloc (.cells #[.int .i64 pe, .int .i64 (hv + 1), .bool false, .int .i64 pa, .int .i64 fk, .int .i64 fh, .int .i64 fe, .slice fA fp.length fc, .string fs] 39) := ⟨_, rfl⟩
  obtain ⟨W3, hW3⟩ : ∃ W3, W3 = W2.alloc (.cells #[.int .i64 0, .int .i64 0, .slice none 0 0, .slice none 0 0, .int .i64 0] 35) := ⟨_, rfl⟩
  obtain ⟨WA, hWA⟩ : ∃ WA, WA = W3.alloc (.cells #[.int .i64 0, .int .i64 0, .int .i64 0, .slice none 0 0, .string ⟨#[]⟩] 37) := ⟨_, rfl⟩
  have g1 : W1.heap.size = w.heap.size + 1 := by rw [hW1]; simp
  have g2 : W2.heap.size = W1.heap.size + 1 := by rw [hW2]; simp
  have g3 : W3.heap.size = W2.heap.size + 1 := by rw [hW3]; simp
  have g4 : WA.heap.size = W3.heap.size + 1 := by rw [hWA]; simp
  have k1 : Below w.heap.size w W1 := by rw [hW1]; exact bAlloc (Below.refl _ _) _
  have k2 : Below W1.heap.size W1 W2 := by rw [hW2]; exact bAlloc (Below.refl _ _) _
  have k3 : Below W2.heap.size W2 W3 := by rw [hW3]; exact bAlloc (Below.refl _ _) _
  have k4 : Below W3.heap.size W3 WA := by rw [hWA]; exact bAlloc (Below.refl _ _) _
  have k34 := bThen k3 k4
  have k24 := bThen k2 k34
  have HA0 := Lib.hid (show HearAt w WA W1.heap.size W2.heap.size W3.heap.size ⟨e, n, sA, sc, s, qA, qc, q, hv⟩ ⟨pe, hv + 1, false, pa, ⟨fk, fh, fe, ⟨fA, fc, fp⟩, fs⟩⟩ zeroF from
    ⟨(k24.block _ (by omega)).trans (by rw [hW1]; exact heap_alloc_new _ _), (k34.block _ (by omega)).trans (by rw [hW2]; exact heap_alloc_new _ _), (k4.block _ (by omega)).trans (by rw [hW3]; exact heap_alloc_new _ _), by rw [hWA]; exact heap_alloc_new _ _, bThen k1 k24⟩)
  have HW := Lib.hid (show (((w.alloc (.cells #[.int .i64 e, .int .i64 n, .slice sA s.length sc, .slice qA q.length qc, .int .i64 hv] 35)).alloc (.cells #[.int .i64 pe, .int .i64 (hv + 1), .bool false, .int .i64 pa, .int .i64 fk, .int .i64 fh, .int .i64 fe, .slice fA fp.length fc, .string fs] 39)).alloc (.cells #[.int .i64 0, .int .i64 0, .slice none 0 0, .slice none 0 0, .int .i64 0] 35)).alloc (.cells #[.int .i64 0, .int .i64 0, .int .i64 0, .slice none 0 0, .string ⟨#[]⟩] 37) = WA by rw [hWA, hW3, hW2, hW1])
  obtain ⟨Q, hQ⟩ : ∃ Q, Q = W1.heap.size := ⟨_, rfl⟩
  obtain ⟨R, hR⟩ : ∃ R, R = W2.heap.size := ⟨_, rfl⟩
  obtain ⟨F, hF⟩ : ∃ F, F = W3.heap.size := ⟨_, rfl⟩
  have HE1 := Lib.hid (show w.heap.size + 1 + 1 + 1 = F by omega)
  have HE2 := Lib.hid (show w.heap.size + 1 + 1 = R by omega)
  have HE3 := Lib.hid (show w.heap.size + 1 = Q by omega)
  have hord : w.heap.size < Q ∧ Q < R ∧ R < F := by omega
  have HO := Lib.hid hord
  have hFA : F < WA.heap.size := by omega
  have m1 : ¬ R = F := by omega
  have m2 : ¬ F = R := by omega
  rw [← hQ, ← hR, ← hF] at HA0
  clear hQ hR hF k1 k2 k3 k4 k34 k24 g1 g2 g3 g4 hWA hW3 hW2 hW1 hord hi hT hm hk hf hfm he
  go_enter Tryd.func22, Tryd.ntmps22
  go_wp2_with fail
  rw [HW.out, HE1.out, HE2.out, HE3.out]
  refine (HC.out _ (HT.out.later HA0.out.b) (HI.out.later HA0.out.b)).mono ?_
  rintro r w1 ⟨rfl, hb1⟩
  have HA1 := Lib.hid (HA0.out.later hb1)
  clear hb1
  obtain ⟨p0, p1, p2, p3, p4, v0, v1, v2, v3, v4, pz⟩ := five_cell HA1.out.l
  obtain ⟨q0, q1, q2, q3, q4, q5, q6, q7, q8, g0, g1, g2, g3, g4, g5, g6, g7, g8, gz⟩ := nine_cell HA1.out.p
  obtain ⟨r0, r1, r2, r3, r4, j0, j1, j2, j3, j4, rz⟩ := five_cell HA1.out.r
  obtain ⟨t0, t1, t2, t3, t4, k0, k1, k2, k3, k4, tz⟩ := five_cell HA1.out.f
  go_wp2_with fail
  refine (HF.out _ (HT.out.later HA1.out.b) (Sl.later HOP.out HA1.out.b)).mono ?_
  rintro r w2 ⟨rfl, hb2⟩
  have HA2 := Lib.hid (HA1.out.later hb2)
  clear hb2 p0 p1 p2 p3 p4 v0 v1 v2 v3 v4 pz q0 q1 q2 q3 q4 q5 q6 q7 q8 g0 g1 g2 g3 g4 g5 g6 g7 g8 gz r0 r1 r2 r3 r4 j0 j1 j2 j3 j4 rz t0 t1 t2 t3 t4 k0 k1 k2 k3 k4 tz
  obtain ⟨p0, p1, p2, p3, p4, v0, v1, v2, v3, v4, pz⟩ := five_cell HA2.out.l
  obtain ⟨q0, q1, q2, q3, q4, q5, q6, q7, q8, g0, g1, g2, g3, g4, g5, g6, g7, g8, gz⟩ := nine_cell HA2.out.p
  obtain ⟨r0, r1, r2, r3, r4, j0, j1, j2, j3, j4, rz⟩ := five_cell HA2.out.r
  obtain ⟨t0, t1, t2, t3, t4, k0, k1, k2, k3, k4, tz⟩ := five_cell HA2.out.f
  go_wp2_with fail
  refine (HOW.out _ (HI.out.later HA2.out.b)).mono ?_
  rintro r w3 ⟨⟨e3, n3, sA3, sc3, s3, qA3, qc3, q3', h3⟩, mid, rfl, hd3, hmid, hS3, hQ3, hb3⟩
  have hd3' := hd3
  simp only [LinkV.d, LinkD.mk.injEq] at hd3'
  obtain ⟨d1, d2, d3, d4, d5⟩ := hd3'
  have d1 := d1.symm
  have d2 := d2.symm
  have d5 := d5.symm
  subst d1 d2 d5
  have hl3 : s3.length = s.length := by have := congrArg List.length d3; simpa using this
  have hl4 : q3'.length = q.length := by have := congrArg List.length d4; simpa using this
  have hz3 := hb3.size
  obtain ⟨W4, hW4⟩ : ∃ W4, W4 = w3.alloc (.cells #[.int .i64 e, .int .i64 n, .slice sA3 s3.length sc3, .slice qA3 q3'.length qc3, .int .i64 hv] 35) := ⟨_, rfl⟩
  have hb4 : Below w3.heap.size w3 W4 := by rw [hW4]; exact bAlloc (Below.refl _ _) _
  have hX4 : LinkAt W4 w3.heap.size ⟨e, n, sA3, sc3, s3, qA3, qc3, q3', hv⟩ := by rw [hW4]; exact heap_alloc_new _ _
  have HL4 := Lib.hid (LinkSt.plain (l := ⟨e, n, sA3, sc3, s3, qA3, qc3, q3', hv⟩) hS3 hQ3 hmid hb4 hX4)
  have HA3 := Lib.hid (HA2.out.later hb3)
  have HA4 := Lib.hid (HA2.out.later (bThen hb3 hb4))
  have hz4 := hb4.size
  have hXz : w3.heap.size < W4.heap.size := by rw [hW4]; simp
  have HNM := Lib.hid (show ((s.length : Int) < n ∧ n ≤ 1048576) ∧ s.length ≤ 8 ∧ q.length ≤ 1048576 ∧ (0 ≤ hv ∧ hv ≤ 1048576) from ⟨⟨HK.out.2.1.2.1, HK.out.1.2.1.2⟩, HK.out.2.1.1, HM.out.ql, HK.out.1.2.2⟩)
  have HSM := Lib.hid (show (∀ f ∈ s3, f.o.ps.length ≤ 1048576) ∧ ∀ f ∈ q3', f.o.ps.length ≤ 1048576 from
    ⟨fun f hf => (small_d d3 HM.out.s f hf).op.len, fun f hf => (small_d d4 HM.out.q f hf).op.len⟩)
  have H3 := Lib.hid d3
  have H4 := Lib.hid d4
  have HL3 := Lib.hid hl3
  have HLQ := Lib.hid hl4
  have HBA := Lib.hid (show F < w2.heap.size ∧ w2.heap.size ≤ w3.heap.size ∧ w3.heap.size < W4.heap.size from ⟨HA2.out.lt.2.2.2, hz3, hXz⟩)
  have HW4 := Lib.hid hW4
  have HKD := Lib.hid (show kinds D from by
    rw [HDD.out]
    exact ⟨fun f hf => framesOk_kinds HK.out.2.2.1.1 f (List.mem_of_mem_drop hf), fun f hf => framesOk_kinds HK.out.2.2.1.2 f hf⟩)
  clear hS3 hQ3 hmid hb3 hb4 hd3 d3 d4 hl3 hl4 hW4 hX4 hz4 hXz p0 p1 p2 p3 p4 v0 v1 v2 v3 v4 pz q0 q1 q2 q3 q4 q5 q6 q7 q8 g0 g1 g2 g3 g4 g5 g6 g7 g8 gz r0 r1 r2 r3 r4 j0 j1 j2 j3 j4 rz t0 t1 t2 t3 t4 k0 k1 k2 k3 k4 tz
  obtain ⟨p0, p1, p2, p3, p4, v0, v1, v2, v3, v4, pz⟩ := five_cell HA3.out.l
  obtain ⟨q0, q1, q2, q3, q4, q5, q6, q7, q8, g0, g1, g2, g3, g4, g5, g6, g7, g8, gz⟩ := nine_cell HA3.out.p
  have n1 : ¬ w3.heap.size = Q := by have := HA3.out.lt; omega
  have n2 : ¬ Q = w3.heap.size := by omega
  have n3 : ¬ w3.heap.size = w.heap.size := by have := HA3.out.lt; omega
  have n4 : ¬ w.heap.size = w3.heap.size := by omega
  have hfirst : wrap64 (n - (s.length : Int)) = n - s.length := wrap_in (by have := HNM.out; omega)
  have hn1 : wrap64 (n - 1) = n - 1 := wrap_in (by have := HNM.out; omega)
  have hw : wrap64 (hv + 1) = hv + 1 := wrap_in (by have := HNM.out; omega)
  obtain ⟨X, hX⟩ : ∃ X, X = w3.heap.size := ⟨_, rfl⟩
  have HXE := Lib.hid hX
  clear hX
  go_wp2_with fail
  rw [← HW4.out, ← HXE.out]
  refine (In_yes pa (n - (s.length : Int)) (n - 1) W4 (by omega) (by omega)).mono ?_
  rintro r w5 ⟨rfl, rfl⟩
  have HLS := Lib.hid (show LinkSt W4 w2.heap.size X ⟨e, n, sA3, sc3, s3, qA3, qc3, q3', hv⟩ by rw [HXE.out]; exact HL4.out)
  have HQC := Lib.hid HL4.out.qcap
  have HOX := Lib.hid (show F < X ∧ X < W4.heap.size by have := HBA.out; have := HXE.out; omega)
  clear q0 q1 q2 q3 q4 q5 q6 q7 q8 g0 g1 g2 g3 g4 g5 g6 g7 g8 gz p0 p1 p2 p3 p4 v0 v1 v2 v3 v4 pz n1 n2 n3 n4 hn1
  have HNX := Lib.hid (show ((¬ X = w.heap.size) ∧ (¬ w.heap.size = X)) ∧ ((¬ X = Q) ∧ (¬ Q = X)) ∧ ((¬ X = R) ∧ (¬ R = X)) ∧ ((¬ X = F) ∧ (¬ F = X)) by have := HO.out; have := HOX.out; omega)
  obtain ⟨⟨z1, z2⟩, ⟨z3, z4⟩, ⟨z5, z6⟩, ⟨z7, z8⟩⟩ := HNX.out
  have hK1 : wrap64 (pa + 1) = pa + 1 := wrap_in (by omega)
  have hK2 : wrap64 (pa + 1 - (n - (s.length : Int))) = (K : Int) := by
    rw [show pa + 1 - (n - (s.length : Int)) = (K : Int) by have := hK; omega]
    exact wrap_in (by have := HNM.out; have := hK; omega)
  have HI3 := Lib.hid (HI.out.later HA4.out.b)
  have HCP := Lib.hid (show (s.length = 0 ∨ ∃ b o, sA = some ⟨b, o, none⟩) from by
    by_cases h0 : 0 < s.length
    · obtain ⟨b, o, e1, _⟩ := HI.out.s.row.2 h0
      exact .inr ⟨b, o, e1⟩
    · exact .inl (by omega))
  have hKK := Lib.hid hK
  obtain ⟨bA, oA, rfl⟩ : ∃ b o, sA = some ⟨b, o, none⟩ := by
    rcases HCP.out with h1 | h1
    · exact absurd h1 (by have := hKK.out; omega)
    · exact h1
  have a3 : decide ((s.length : Int) < (K : Int)) = false := by simp; omega
  have a4 : decide ((sc : Int) < (K : Int)) = false := by have := HSC.out; simp; omega
  have hKl : K ≤ s.length := hK.2.2
  have HDR := Lib.hid (fun (A' : Option Addr) (hA : A' = (if sc = K then some ⟨bA, oA, none⟩ else some ⟨bA, oA + K * 5, none⟩)) => drop_in (K := K) HI3.out.s hKl HSC.out hA)
  clear hK
  obtain ⟨p0, p1, p2, p3, p4, v0, v1, v2, v3, v4, pz⟩ := five_cell HA4.out.l
  obtain ⟨q0, q1, q2, q3, q4, q5, q6, q7, q8, g0, g1, g2, g3, g4, g5, g6, g7, g8, gz⟩ := nine_cell HA4.out.p
  obtain ⟨x0, x1, x2, x3, x4, y0, y1, y2, y3, y4, hxz⟩ := five_cell HLS.out.at_
  (try dsimp only at x0 x1 x2 x3 x4)
  go_wp2_with fail
  all_goals (
    clear hK1 hK2 hfirst hw
    refine (HFC.out W4 _ _ ?hs).mono ?_
    case hs => exact HDR.out _ (by first | (rw [if_pos (by assumption)]; done) | (rw [if_neg (by assumption)]; done) | (rw [if_pos (by omega)]; done) | (rw [if_neg (by omega)]; done))
    rintro r w5 ⟨A4, c4, L4, rfl, hd4, ho4, hb4⟩
    have HD4 := Lib.hid hd4
    have HO4 := Lib.hid ho4
    have HB4 := Lib.hid hb4
    have HA5' := Lib.hid (HA4.out.later hb4)
    have hX5 := (hb4.block X HOX.out.2).trans HLS.out.at_
    clear ho4 hb4 hd4 p0 p1 p2 p3 p4 v0 v1 v2 v3 v4 pz q0 q1 q2 q3 q4 q5 q6 q7 q8 g0 g1 g2 g3 g4 g5 g6 g7 g8 gz x0 x1 x2 x3 x4 y0 y1 y2 y3 y4 hxz
    obtain ⟨p0, p1, p2, p3, p4, v0, v1, v2, v3, v4, pz⟩ := five_cell HA5'.out.l
    obtain ⟨q0, q1, q2, q3, q4, q5, q6, q7, q8, g0, g1, g2, g3, g4, g5, g6, g7, g8, gz⟩ := nine_cell HA5'.out.p
    obtain ⟨x0, x1, x2, x3, x4, y0, y1, y2, y3, y4, hxz⟩ := five_cell hX5
    (try dsimp only at x0 x1 x2 x3 x4)
    clear hX5
    have hw : wrap64 (hv + 1) = hv + 1 := wrap_in (by have := HNM.out; omega)
    go_wp2_with fail
    obtain ⟨V, hV⟩ : ∃ V, V = (w5.setCell ⟨X, 2, none⟩ (.slice A4 L4.length c4)).setCell ⟨X, 4, none⟩ (.int .i64 (hv + 1)) := ⟨_, rfl⟩
    have hsw := HLS.out.swap4 (h' := hv + 1) HO4.out HB4.out rfl HOX.out.2
    rw [← hV] at hsw
    rw [← hV]
    have hVO : Upon w2.heap.size X w5 V := by rw [hV]; exact (Upon.set _ _ _).trans (Upon.set _ _ _)
    have hVz : V.heap.size = w5.heap.size := by rw [hV]; simp [World.setCell]
    have HVF := Lib.hid (show (fun V => LinkAt V X ⟨e, n, A4, c4, L4, qA3, qc3, q3', hv + 1⟩ ∧ (⟨e, n, A4, c4, L4, qA3, qc3, q3', hv + 1⟩ : LinkV).In V ∧ LinkV.d ⟨e, n, A4, c4, L4, qA3, qc3, q3', hv + 1⟩ = D ∧ (L4.length ≤ s3.length ∧ ∀ f ∈ L4, f.o.ps.length ≤ 1048576) ∧ HearAt w V Q R F ⟨e, n, some ⟨bA, oA, none⟩, sc, s, qA, qc, q, hv⟩ ⟨pe, hv + 1, false, pa, ⟨fk, fh, fe, ⟨fA, fc, fp⟩, fs⟩⟩ zeroF ∧ X < V.heap.size) V from ⟨hsw.1, hsw.2, by rw [HDD.out]; simp only [LinkV.d, HD4.out, H4.out, List.map_drop], ⟨by
      have h1 := congrArg List.length HD4.out
      have h2 := HL3.out
      simp only [List.length_map, List.length_drop] at h1
      omega, fun f hf => by
      have h1 : f.d ∈ (s.drop K).map FrameV.d := HD4.out ▸ List.mem_map.2 ⟨f, hf, rfl⟩
      obtain ⟨g, hg, e1⟩ := List.mem_map.1 h1
      have h2 := (HM.out.s g (List.mem_of_mem_drop hg)).op.len
      have h3 := congrArg (fun x => x.op.length) e1
      dsimp only at h3
      omega⟩, HA5'.out.upon (by have := HO.out; have := HBA.out; have := HXE.out; omega) hVO, by have := HOX.out; have := HB4.out.size; omega⟩)
    clear hsw hVO hV p0 p1 p2 p3 p4 v0 v1 v2 v3 v4 pz q0 q1 q2 q3 q4 q5 q6 q7 q8 g0 g1 g2 g3 g4 g5 g6 g7 g8 gz x0 x1 x2 x3 x4 y0 y1 y2 y3 y4 hxz hw
    rw [show w5.heap.size = V.heap.size from hVz.symm]
    clear hVz
    obtain ⟨hXV, hIV, hDV, hSV, hAV, hzV⟩ := HVF.out
    have HXV := Lib.hid hXV
    have HIV := Lib.hid hIV
    have HDV := Lib.hid hDV
    have HSV := Lib.hid hSV
    have HAV := Lib.hid hAV
    clear hXV hIV hDV hSV hAV HVF
    obtain ⟨W5, hW5⟩ : ∃ W5, W5 = V.alloc (.cells #[.int .i64 0, .int .i64 0, .int .i64 0, .slice none 0 0, .string ⟨#[]⟩] 37) := ⟨_, rfl⟩
    rw [← hW5]
    have hb5 : Below V.heap.size V W5 := by rw [hW5]; exact bAlloc (Below.refl _ _) _
    have HG5 := Lib.hid (show FrameAt W5 V.heap.size 0 0 0 none 0 0 ⟨#[]⟩ by rw [hW5]; exact heap_alloc_new _ _)
    have HA5 := Lib.hid (HAV.out.later hb5)
    have HX5 := Lib.hid ((hb5.block X hzV).trans HXV.out)
    have HI5' := Lib.hid (HIV.out.later hb5)
    obtain ⟨G, hG⟩ : ∃ G, G = V.heap.size := ⟨_, rfl⟩
    rw [← hG] at HG5
    rw [← hG]
    have HOG := Lib.hid (show F < X ∧ X < G ∧ G < W5.heap.size by have := HOX.out; have := (five_cell HG5.out).2.2.2.2.2.2.2.2.2.2; omega)
    have HWV := Lib.hid (show V.heap.size = G ∧ Below V.heap.size V W5 from ⟨hG.symm, hb5⟩)
    clear hG hW5 hb5
    refine (HCF.out W5 (Sl.later HOP.out HA5.out.b)).mono ?_
    rintro r wf ⟨A2, c2, rfl, ho2, hb2⟩
    have HAf := Lib.hid (HA5.out.later hb2)
    have HGf := Lib.hid ((hb2.block G HOG.out.2.2).trans HG5.out)
    have HXf := Lib.hid ((hb2.block X (by have := HOG.out; omega)).trans HX5.out)
    have HIf := Lib.hid (HI5'.out.later hb2)
    have HO2 := Lib.hid ho2
    have HBf := Lib.hid (bThen HWV.out.2 hb2)
    have hzf := hb2.size
    clear ho2 hb2
    have HNf := Lib.hid (show (¬ G = X) ∧ (¬ X = G) ∧ (¬ G = Q) ∧ (¬ Q = G) by have := HO.out; have := HOG.out; omega)
    obtain ⟨u1, u2, u3, u4⟩ := HNf.out
    obtain ⟨b0, b1, b2, b3, b4, b5, b6, b7, b8, b9, bz⟩ := five_cell HGf.out
    obtain ⟨x0, x1, x2, x3, x4, y0, y1, y2, y3, y4, hxz⟩ := five_cell HXf.out
    (try dsimp only at x0 x1 x2 x3 x4)
    go_wp2_with fail
    obtain ⟨WF, hWF⟩ : ∃ WF, WF = (((((wf.setCell ⟨G, 0, none⟩ (.int .i64 fk)).setCell ⟨G, 1, none⟩ (.int .i64 fh)).setCell ⟨G, 2, none⟩ (.int .i64 fe)).setCell ⟨G, 3, none⟩ (.slice A2 fp.length c2)).setCell ⟨G, 4, none⟩ (.string fs)) := ⟨_, rfl⟩
    rw [← hWF]
    obtain ⟨hGF, hOF⟩ := five_sets (x0 := .int .i64 fk) (x1 := .int .i64 fh) (x2 := .int .i64 fe) (x3 := .slice A2 fp.length c2) (x4 := .string fs) HGf.out
    rw [← hWF] at hGF hOF
    have hbF0 := hOF.below (base := V.heap.size) (by rw [HWV.out.1]; exact Nat.le_refl _) HBf.out.size
    have hbF : Below V.heap.size V WF := ⟨hbF0.os.trans HBf.out.os, hbF0.tape.trans HBf.out.tape, hbF0.output.trans HBf.out.output, Nat.le_trans HBf.out.size hbF0.size, fun x hx => (hbF0.block x hx).trans (HBf.out.block x hx)⟩
    clear hbF0
    have HAF := Lib.hid (HAV.out.later hbF)
    have HGF := Lib.hid hGF
    have HIF := Lib.hid (HIV.out.later hbF)
    have HOF := Lib.hid (HO2.out.moved (S' := fun b => W5.heap.size ≤ b ∧ b < WF.heap.size) (w' := WF) fun b hb => ⟨⟨hb.1, Nat.lt_of_lt_of_le hb.2 hOF.size⟩, hOF.block b hb.2 (by have := HOG.out; omega)⟩)
    have hzF := hOF.size
    clear hWF hGF hOF hbF x0 x1 x2 x3 x4 y0 y1 y2 y3 y4 hxz b0 b1 b2 b3 b4 b5 b6 b7 b8 b9 bz u1 u2 u3 u4
    have HOGF := Lib.hid (show X < G ∧ G < WF.heap.size by have := HOG.out; omega)
    have HFL := Lib.hid (filled_c WF ⟨e, n, A4, c4, L4, qA3, qc3, q3', (hv + 1)⟩ HIF.out HQC.out (by have := HNM.out; have := HL3.out; have := HSV.out.1; dsimp only; omega) (by have := HNM.out; dsimp only; omega) (by have := HNM.out; have := HLQ.out; dsimp only; omega) ⟨HSV.out.2, HSM.out.2⟩)
    rw [HDV.out] at HFL
    refine HFL.out.mono ?_
    rintro r w6 ⟨⟨e5, n5, sA5, sc5, s5, qA5, qc5, q5, h5⟩, A5, c5, L5, rfl, hd5, hp5, hi5, ho5, hb6, wm, him, hbm, hom, hzm⟩
    have HD5 := Lib.hid hd5
    have HP5 := Lib.hid hp5
    have HIM := Lib.hid him
    have HBM := Lib.hid hbm
    have HOM := Lib.hid hom
    obtain ⟨W7, hW7⟩ : ∃ W7, W7 = w6.alloc (.cells #[.int .i64 e5, .int .i64 n5, .slice sA5 s5.length sc5, .slice qA5 q5.length qc5, .int .i64 h5] 35) := ⟨_, rfl⟩
    have hb7 : Below w6.heap.size w6 W7 := by rw [hW7]; exact bAlloc (Below.refl _ _) _
    have hb67 := bThen hb6 hb7
    have HI7 := Lib.hid (hi5.later hb7)
    have HO7 := Lib.hid (ho5.later hb7)
    have HOW6 := Lib.hid ho5
    have HA6 := Lib.hid (HAF.out.later hb6)
    have HG6 := Lib.hid ((hb6.block G (by have := HOG.out; omega)).trans HGF.out)
    have HA7 := Lib.hid (HAF.out.later hb67)
    have HG7 := Lib.hid ((hb67.block G (by have := HOG.out; omega)).trans HGF.out)
    have HY7 := Lib.hid (show LinkAt W7 w6.heap.size ⟨e5, n5, sA5, sc5, s5, qA5, qc5, q5, h5⟩ by rw [hW7]; exact heap_alloc_new _ _)
    have HW7 := Lib.hid hW7
    have hz6 := hb6.size
    have hz7 := hb7.size
    have HGZ := Lib.hid (show G < w6.heap.size by have := HOG.out; omega)
    have HOF7 := Lib.hid (HOF.out.moved (S' := fun b => W5.heap.size ≤ b ∧ b < W7.heap.size) (w' := W7) fun b hb => ⟨⟨hb.1, by omega⟩, hb67.block b hb.2⟩)
    have HF7 := Lib.hid hb67
    have HM7 := Lib.hid (bThen hbm hb7)
    have HOM7 := Lib.hid (hom.later hb7)
    clear hd5 hp5 hi5 ho5 hb6 hb7 hb67 hW7 HFL him hbm hom
    obtain ⟨p0, p1, p2, p3, p4, v0, v1, v2, v3, v4, pz⟩ := five_cell HA6.out.l
    obtain ⟨q0, q1, q2, q3, q4, q5, q6, q7, q8, g0, g1, g2, g3, g4, g5, g6, g7, g8, gz⟩ := nine_cell HA6.out.p
    obtain ⟨b0, b1, b2, b3, b4, _, _, _, _, _, bz⟩ := five_cell HG6.out
    have HNG := Lib.hid (show ((¬ G = R) ∧ (¬ R = G)) ∧ ((¬ G = F) ∧ (¬ F = G)) ∧ ((¬ w6.heap.size = R) ∧ (¬ R = w6.heap.size)) ∧ ((¬ w6.heap.size = F) ∧ (¬ F = w6.heap.size)) ∧ ((¬ w6.heap.size = Q) ∧ (¬ Q = w6.heap.size)) ∧ ((¬ w6.heap.size = w.heap.size) ∧ (¬ w.heap.size = w6.heap.size)) ∧ ((¬ w6.heap.size = G) ∧ (¬ G = w6.heap.size)) by
      have h1 := HO.out
      have h2 := HOX.out.1
      have h3 := HGZ.out
      have h4 : X < G := by have := HOG.out; omega
      clear hz6 hz7
      refine ⟨⟨?_, ?_⟩, ⟨?_, ?_⟩, ⟨?_, ?_⟩, ⟨?_, ?_⟩, ⟨?_, ?_⟩, ⟨?_, ?_⟩, ?_, ?_⟩ <;> omega)
    have HLEN := Lib.hid (show L5.length ≤ 8 from by have h1 := congrArg List.length HP5.out; have h2 := fillP_len D; rw [List.length_map, h2.1] at h1; omega)
    have hlen := HLEN.out
    have HXR := Lib.hid (HOM7.out.row.alloc (.cells #[.int .i64 e, .int .i64 0, .bool true, .int .i64 h5, .int .i64 0, .int .i64 0, .int .i64 0, .slice none 0 0, .string ⟨#[]⟩] 39))
    rw [HW7.out] at HXR
    have hmw := HM7.out.size
    go_wp2_with (refine stop_append rfl ?_)
    refine ⟨?_⟩
    refine wpList_append_sl _ rfl _ _ 41 rfl wm.heap.size 39 i0 (.agg #[.int .i64 0, .int .i64 0, .bool false, .int .i64 0, .int .i64 0, .int .i64 0, .int .i64 0, .slice none 0 0, .string ⟨#[]⟩]) 9 96 Tryd.underlying41 hi0 hz0 hz1 hz2 rfl (by decide) _ _ _ rfl HXR.out (fun _ => True) _ _ _ _ rfl (row_top (by rfl) (by simp)) ?c1 ?c2 ?c3 ?c4 ?_
    case c1 => intro u hu; simp at hu; rcases hu with rfl | rfl | rfl | rfl | rfl | rfl | rfl | rfl | rfl <;> rfl
    case c2 => unfold maxLen; omega
    case c3 => omega
    case c4 => rw [← HW7.out]; simp; omega
    intro A8 c8 w8 hown' hgrow hat
    rw [← HW7.out] at hgrow hat
    have hP := RowOwn.push (f := PacketV.cells) (op := PacketV.op) (x := ⟨e, 0, true, h5, ⟨0, 0, 0, ⟨none, 0, []⟩, ⟨#[]⟩⟩⟩) HOM7.out hmw (Below.refl _ W7) Sl.nil hgrow hown' hat
    have hF := push_frame HM7.out (Below.refl _ W7) hgrow (fun g hg => (HOM7.out.row.lt g hg).1)
    have hF2 := push_frame HF7.out (Below.refl _ W7) hgrow (fun g hg => (HO7.out.row.lt g hg).1)
    have HA8 := Lib.hid (HAF.out.later hF2)
    have HG8 := Lib.hid ((hF2.block G (by have := HOG.out; omega)).trans HGF.out)
    have HY8 := Lib.hid (((hgrow.block w6.heap.size (by simp; have := (five_cell HY7.out).2.2.2.2.2.2.2.2.2.2; omega) (fun e1 => by have h1 := (HOW6.out.row.lt _ e1.symm).2; omega)).trans ((bAlloc (Below.refl _ _) _).block w6.heap.size (by have := (five_cell HY7.out).2.2.2.2.2.2.2.2.2.2; omega))).trans HY7.out)
    have HI8 := Lib.hid (HIM.out.later hF)
    have HP8 := Lib.hid hP
    have HD8 := Lib.hid (show (L5 ++ [(⟨e, 0, true, h5, ⟨0, 0, 0, ⟨none, 0, []⟩, ⟨#[]⟩⟩⟩ : PacketV)]).map PacketV.d = fillP D ++ [bareX D] by
      have h1 := HD5.out
      simp only [LinkV.d, fillL, LinkD.mk.injEq] at h1
      rw [List.map_append, HP5.out]
      unfold bareX
      rw [← h1.2.2.2.2, HDD.out]
      rfl)
    have hz8 := hF2.size
    have HZ8 := Lib.hid hF.size
    have HOFZ := Lib.hid (HOF.out.moved (S' := fun b => W5.heap.size ≤ b ∧ b < w8.heap.size) (w' := w8) fun b hb => ⟨⟨hb.1, by omega⟩, hF2.block b hb.2⟩)
    clear hown' hgrow hat hP hF hF2 p0 p1 p2 p3 p4 v0 v1 v2 v3 v4 pz q0 q1 q2 q3 q4 q5 q6 q7 q8 g0 g1 g2 g3 g4 g5 g6 g7 g8 gz b0 b1 b2 b3 b4 bz
    obtain ⟨⟨z9, z10⟩, ⟨z11, z12⟩, ⟨z13, z14⟩, ⟨z15, z16⟩, ⟨z17, z18⟩, ⟨z19, z20⟩, ⟨z21, z22⟩⟩ := HNG.out
    obtain ⟨x0, x1, x2, x3, x4, y0, y1, y2, y3, y4, hxz⟩ := five_cell HY8.out
    obtain ⟨b0, b1, b2, b3, b4, _, _, _, _, _, bz⟩ := five_cell HG8.out
    obtain ⟨r0, r1, r2, r3, r4, j0, j1, j2, j3, j4, rz⟩ := five_cell HA8.out.r
    obtain ⟨t0, t1, t2, t3, t4, k0, k1, k2, k3, k4, tz⟩ := five_cell HA8.out.f
    (try dsimp only at x0 x1 x2 x3 x4 t0 t1 t2 t3 t4)
    go_wp2_with fail
    go_region
    go_wp2_with fail
    obtain ⟨W9, hW9⟩ : ∃ W9, W9 = ((((((((((w8).setCell ⟨R, 0, none⟩ (.int .i64 e5)).setCell ⟨R, 1, none⟩ (.int .i64 n5)).setCell ⟨R, 2, none⟩ (.slice sA5 s5.length sc5)).setCell ⟨R, 3, none⟩ (.slice qA5 q5.length qc5)).setCell ⟨R, 4, none⟩ (.int .i64 h5)).setCell ⟨F, 0, none⟩ (.int .i64 fk)).setCell ⟨F, 1, none⟩ (.int .i64 fh)).setCell ⟨F, 2, none⟩ (.int .i64 fe)).setCell ⟨F, 3, none⟩ (.slice A2 fp.length c2)).setCell ⟨F, 4, none⟩ (.string fs) := ⟨_, rfl⟩
    rw [← hW9]
    obtain ⟨WZ, hWZ⟩ : ∃ WZ, WZ = W9.drew := ⟨_, rfl⟩
    rw [← hWZ]
    obtain ⟨a1, a2, a3, a5⟩ := heard_sets HA8.out.r HA8.out.f m1 hW9 hWZ
    have hI9 := a5 _ HI8.out (by rw [HD5.out]; exact kinds_fill HKD.out)
    have hB9 := HA8.out.b.trans (a3.below (base := w.heap.size) (by have := HO.out; omega) (by have := HO.out; omega) HA8.out.b.size)
    clear hW9 hWZ a5 r0 r1 r2 r3 r4 t0 t1 t2 t3 t4
    obtain ⟨r0, r1, r2, r3, r4, _, _, _, _, _, _⟩ := five_cell a1
    obtain ⟨t0, t1, t2, t3, t4, _, _, _, _, _, _⟩ := five_cell a2
    refine bodyPost_ret (v := .tuple #[(⟨e5, n5, sA5, sc5, s5, qA5, qc5, q5, h5⟩ : LinkV).val, frameV fk fh fe A2 fp.length c2 fs, .bool true, .slice A8 (L5.length + 1) c8, .int .i64 0]) (by simp [results, Tryd.results22, go_sem, r0, r1, r2, r3, r4, t0, t1, t2, t3, t4]) rfl ?_
    exact ⟨⟨e5, n5, sA5, sc5, s5, qA5, qc5, q5, h5⟩, A2, c2, A8, c8, (L5 ++ [⟨e, 0, true, h5, ⟨0, 0, 0, ⟨none, 0, []⟩, ⟨#[]⟩⟩⟩]), (by first | rfl | simp), HD5.out, HD8.out, hI9, (HOFZ.out.moved fun b hb => ⟨Nat.lt_of_lt_of_le hb.2 a3.size, a3.block b hb.2 (by have := HBA.out; have := HO.out; have := HOG.out; omega) (by have := HBA.out; have := HOG.out; omega)⟩), PacketsOwn.in_two HP8.out a3 (by have := HBA.out; have := HO.out; have := HOG.out; omega) (by have := HBA.out; have := HOG.out; omega), hB9⟩)
end Go.Proofs.YtgcapkkgminidaaDoor
