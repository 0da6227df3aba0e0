/-
  wherrylaw.LinkSends returns true for every link and frame, where what it reads is of bulk at most 1048576, and unicode/utf8's two tables are as their text lays them.
-/
import Derived.Test.YtieofljkgmkaiaaDoorRows
import Derived.Test.YtieofljkgmkaiaaDoorDoor
import Derived.Test.YtieofljkgmkaiaaDoorLinkOpen
import Derived.Test.YtieofljkgmkaiaaDoorLinkSendOk
import Derived.Test.YtieofljkgmkaiaaDoorLinkSentOk
import Derived.Test.YtieofljkgmkaiaaDoorSameLink
namespace Go.Proofs.YtieofljkgmkaiaaDoor
open Go.ChangeShapes Go.WideShapes Go.ChangeAt Go.RowKit Go.Joins Go.Deep
set_option maxRecDepth 100000
/-- Operations of a bounded length. -/
def opsSmall (x : LinkD) : Prop := (∀ f ∈ x.s, f.op.length ≤ 1048576) ∧ ∀ f ∈ x.q, f.op.length ≤ 1048576
theorem fillN_le (x : LinkD) : fillN x ≤ 8 ∧ fillN x ≤ x.q.length := by
  unfold fillN
  omega
theorem fillL_small {x : LinkD} (h : opsSmall x) : opsSmall (fillL x) := by
  refine ⟨fun f hf => ?_, fun f hf => h.2 f (List.mem_of_mem_drop hf)⟩
  rcases List.mem_append.1 hf with hf | hf
  · exact h.1 f hf
  · exact h.2 f (List.mem_of_mem_take hf)
theorem fillP_small {x : LinkD} (h : opsSmall x) : (fillP x).length ≤ 8 ∧ ∀ p ∈ fillP x, p.frame.op.length ≤ 1048576 := by
  unfold fillP
  refine ⟨by simpa using (fillN_le x).1, fun p hp => ?_⟩
  obtain ⟨k, _, rfl⟩ := List.mem_map.1 hp
  have hs := (fillL_small h).1
  show ((fillL x).s.getD _ default).op.length ≤ _
  rw [List.getD_eq_getElem?_getD]
  cases hc : (fillL x).s[x.s.length + k]? with
  | none => exact Nat.zero_le _
  | some f => exact hs f (List.mem_of_getElem? hc)
theorem wait_small {x : LinkD} {f : FrameD} (h : opsSmall x) (hf : f.op.length ≤ 1048576) : opsSmall (waitL x f) := by
  refine ⟨h.1, fun g hg => ?_⟩
  rcases List.mem_append.1 hg with hg | hg
  · exact h.2 g hg
  · obtain rfl := List.mem_singleton.1 hg
    exact hf
theorem LinkV.Small.ops {l : LinkV} (h : l.Small) : opsSmall l.d := by
  refine ⟨fun f hf => ?_, fun f hf => ?_⟩
  · obtain ⟨g, hg, rfl⟩ := List.mem_map.1 hf
    exact (h.s g hg).op.len
  · obtain ⟨g, hg, rfl⟩ := List.mem_map.1 hf
    exact (h.q g hg).op.len
theorem lens_of {L : List FrameV} (h : ∀ f ∈ L.map FrameV.d, f.op.length ≤ 1048576) : ∀ f ∈ L, f.o.ps.length ≤ 1048576 := fun f hf => h f.d (List.mem_map.2 ⟨f, hf, rfl⟩)
theorem FrameV.Small.of_d {f f' : FrameV} (h : f'.d = f.d) (hk : f.Small) : f'.Small := small_d (L := [f]) (L' := [f']) (by simpa using h) (by simpa using hk) f' (by simp)
theorem packets_only {w w' : World} {R : Nat} {A : Option Addr} {L : List PacketV} (hR : ∀ j s, w.cell? ⟨R, j, none⟩ ≠ some (.string s)) (h : PacketsIn w A L) (ho : Only R w w') : PacketsIn w' A L := by
  refine ⟨⟨h.row.1, fun hn => ?_⟩, fun f hf => op_only hR (h.each f hf) ho⟩
  obtain ⟨b, o, e, hb, hc⟩ := h.row.2 hn
  have hbR : b ≠ R := fun e1 => by
    subst e1
    cases L with
    | nil => simp at hn
    | cons f L => exact hR (o + 8) f.f.s (hc 8 _ rfl)
  exact ⟨b, o, e, Nat.lt_of_lt_of_le hb ho.size, fun j u hu => (ho.cell hb hbR).trans (hc j u hu)⟩
/-- What holds once the first answer lies in a block of its own. -/
structure HeldL (WX : World) (Q : Nat) (l : LinkV) (A : Option Addr) (L : List PacketV) (G : World) : Prop where
  e : LinkAt G Q l
  i : l.In G
  p : PacketsIn G A L
  b : Below WX.heap.size WX G
theorem heldL_new {WX w3 : World} {l : LinkV} {A : Option Addr} {L : List PacketV} (hi : l.In w3) (hp : PacketsIn w3 A L) (hb : Below WX.heap.size WX w3) : HeldL WX w3.heap.size l A L (w3.alloc (.cells #[.int .i64 l.e, .int .i64 l.n, .slice l.sA l.s.length l.sc, .slice l.qA l.q.length l.qc, .int .i64 l.h] 24)) :=
  ⟨heap_alloc_new _ _, hi.later (bAlloc (Below.refl _ _) _), hp.later (bAlloc (Below.refl _ _) _), bAlloc hb _⟩
theorem heldL_set {WX w3 : World} {Q : Nat} {l : LinkV} {A : Option Addr} {L : List PacketV} (hZ : LinkAt w3 Q zeroL) (hi : l.In w3) (hp : PacketsIn w3 A L) (hb : Below WX.heap.size WX w3) (hQ : WX.heap.size ≤ Q) : HeldL WX Q l A L (((((w3.setCell ⟨Q, 0, none⟩ (.int .i64 l.e)).setCell ⟨Q, 1, none⟩ (.int .i64 l.n)).setCell ⟨Q, 2, none⟩ (.slice l.sA l.s.length l.sc)).setCell ⟨Q, 3, none⟩ (.slice l.qA l.q.length l.qc)).setCell ⟨Q, 4, none⟩ (.int .i64 l.h)) := by
  obtain ⟨W9, hW9⟩ : ∃ W9, W9 = (((((w3.setCell ⟨Q, 0, none⟩ (.int .i64 l.e)).setCell ⟨Q, 1, none⟩ (.int .i64 l.n)).setCell ⟨Q, 2, none⟩ (.slice l.sA l.s.length l.sc)).setCell ⟨Q, 3, none⟩ (.slice l.qA l.q.length l.qc)).setCell ⟨Q, 4, none⟩ (.int .i64 l.h)) := ⟨_, rfl⟩
  rw [← hW9]
  have hO : Only Q w3 W9 := by rw [hW9]; exact ((((Only.set _ _ _).trans (Only.set _ _ _)).trans (Only.set _ _ _)).trans (Only.set _ _ _)).trans (Only.set _ _ _)
  have hR9 : LinkAt W9 Q l := by
    rw [hW9]
    exact any_set 4 (.int .i64 l.h) (any_set 3 (.slice l.qA l.q.length l.qc) (any_set 2 (.slice l.sA l.s.length l.sc) (any_set 1 (.int .i64 l.n) (any_set 0 (.int .i64 l.e) hZ))))
  have hns := no_string hZ
  exact ⟨hR9, ⟨frames_only hns hi.s hO, frames_only hns hi.q hO⟩, packets_only hns hp hO, hb.trans (hO.below hQ hb.size)⟩
namespace linkSends
set_option maxHeartbeats 2000000 in
/-- The law, where both calls answer this link, these packets and this error. -/
theorem walk_of (w : World) (l : LinkV) (f : FrameV) (hT : Tabs w) (hi : l.In w) (hm : l.Small) (hf : OpIn (· < w.heap.size) w f.o.A f.o.ps) (hfm : f.Small) (D : LinkD) (Ps : List PacketD) (er : Int)
    (HD : Hid (opsSmall D ∧ (D.s.length ≤ 1048577 ∧ D.q.length ≤ 1048577) ∧ Ps.length ≤ 8 ∧ ∀ p ∈ Ps, p.frame.op.length ≤ 1048576))
    (hC : Hid (∀ (W : World) (l' : LinkV) (f' : FrameV), l'.d = l.d → f'.d = f.d → Tabs W → l'.In W → OpIn (· < W.heap.size) W f'.o.A f'.o.ps → Calls Tryd.prog 18 #[l'.val, frameV f'.k f'.h f'.e f'.o.A f'.o.ps.length f'.o.c f'.s] W (RetSend W D Ps er)))
    (hR : Hid (∀ (W : World), Tabs W → l.In W → OpIn (· < W.heap.size) W f.o.A f.o.ps → Calls Tryd.prog 20 #[l.val, frameV f.k f.h f.e f.o.A f.o.ps.length f.o.c f.s] W (RetSend W D Ps er))) :
    Calls Tryd.prog 4 #[l.val, frameV f.k f.h f.e f.o.A f.o.ps.length f.o.c f.s] w fun e w' => e = .returned (.bool true) ∧ Below w.heap.size w w' := by
  have HT := Lib.hid hT
  have HI := Lib.hid hi
  have HF := Lib.hid hf
  have HM := Lib.hid hm
  have HLC := Lib.hid (fun W hi => LinkCopy_c W l hi hm)
  have HFC := Lib.hid (fun W hs => FrameCopy_c W f.k f.h f.e f.o.A f.o.c f.o.ps f.s hs hfm.op.len)
  clear hT hi hm hf hfm
  obtain ⟨fk, fh, fe, ⟨fA, fc, fp⟩, fs⟩ := f
  dsimp only at *
  go_enter Tryd.func4, Tryd.ntmps4
  go_wp2_with fail
  refine (HLC.out _ (HI.out.later (by repeat (first | exact Below.refl _ _ | apply bGrow | apply bAlloc | apply Below.drew | apply bDrewN | apply bIter)))).mono ?_
  rintro e w1 ⟨l1, rfl, hd1, hi1, hb1⟩
  obtain ⟨Wa, hWa⟩ : ∃ Wa, Wa = w.alloc (.cells #[.int .i64 l.e, .int .i64 l.n, .slice l.sA l.s.length l.sc, .slice l.qA l.q.length l.qc, .int .i64 l.h] 24) := ⟨_, rfl⟩
  obtain ⟨Wb, hWb⟩ : ∃ Wb, Wb = Wa.alloc (.cells #[.int .i64 fk, .int .i64 fh, .int .i64 fe, .slice fA fp.length fc, .string fs] 35) := ⟨_, rfl⟩
  have g1 : Wa.heap.size = w.heap.size + 1 := by rw [hWa]; simp
  have g2 : Wb.heap.size = Wa.heap.size + 1 := by rw [hWb]; simp
  have k1 : Below w.heap.size w Wa := by rw [hWa]; exact bAlloc (Below.refl _ _) _
  have k2 : Below Wa.heap.size Wa Wb := by rw [hWb]; exact bAlloc (Below.refl _ _) _
  rw [← hWa, ← hWb] at hb1
  have hz1 := hb1.size
  obtain ⟨WX, hWX⟩ : ∃ WX, WX = w1.alloc (.cells #[.int .i64 l1.e, .int .i64 l1.n, .slice l1.sA l1.s.length l1.sc, .slice l1.qA l1.q.length l1.qc, .int .i64 l1.h] 24) := ⟨_, rfl⟩
  have hkX : Below w1.heap.size w1 WX := by rw [hWX]; exact bAlloc (Below.refl _ _) _
  have hb0 := bThen hb1 hkX
  have HBX := Lib.hid (bThen (bThen k1 k2) hb0)
  have HPX := Lib.hid (show LinkAt WX w.heap.size l from (hb0.block _ (by omega)).trans ((k2.block _ (by omega)).trans (by rw [hWa]; exact heap_alloc_new _ _)))
  have HFX := Lib.hid (show FrameAt WX Wa.heap.size fk fh fe fA fp.length fc fs from (hb0.block _ (by omega)).trans (by rw [hWb]; exact heap_alloc_new _ _))
  have HKX := Lib.hid (show LinkAt WX w1.heap.size l1 by rw [hWX]; exact heap_alloc_new _ _)
  have HI1 := Lib.hid (hi1.later hkX)
  have HD1 := Lib.hid hd1
  have HTX := Lib.hid (HT.out.later HBX.out)
  have HIX := Lib.hid (HI.out.later HBX.out)
  have HOX := Lib.hid (Sl.later HF.out HBX.out)
  obtain ⟨F, hF⟩ : ∃ F, F = Wa.heap.size := ⟨_, rfl⟩
  obtain ⟨K, hK⟩ : ∃ K, K = w1.heap.size := ⟨_, rfl⟩
  have HFF := Lib.hid (show w.heap.size + 1 = F by omega)
  have HKK := Lib.hid hK
  have HWX := Lib.hid hWX
  have HWB := Lib.hid (show (w.alloc (.cells #[.int .i64 l.e, .int .i64 l.n, .slice l.sA l.s.length l.sc, .slice l.qA l.q.length l.qc, .int .i64 l.h] 24)).alloc (.cells #[.int .i64 fk, .int .i64 fh, .int .i64 fe, .slice fA fp.length fc, .string fs] 35) = Wb by rw [hWb, hWa])
  rw [← hF] at HFX
  rw [← hK] at HKX
  have hFz : F < WX.heap.size := (five_cell HFX.out).2.2.2.2.2.2.2.2.2.2
  have hKz : K < WX.heap.size := (five_cell HKX.out).2.2.2.2.2.2.2.2.2.2
  have hPz : w.heap.size < WX.heap.size := (five_cell HPX.out).2.2.2.2.2.2.2.2.2.2
  have HFB := Lib.hid (show FrameAt w1 F fk fh fe fA fp.length fc fs from (hkX.block F (by omega)).symm.trans HFX.out)
  have HPB := Lib.hid (show LinkAt w1 w.heap.size l from (hkX.block _ (by omega)).symm.trans HPX.out)
  clear hi1 hd1 hb0 hb1 hkX k1 k2 g1 g2 hWa hWb hWX hF hK hz1
  obtain ⟨p0, p1, p2, p3, p4, _, _, _, _, _, _⟩ := five_cell HFB.out
  go_wp2_with (refine stop_at ?_)
  refine ⟨?_⟩
  rw [← HWX.out, ← HKK.out, HFF.out]
  clear p0 p1 p2 p3 p4
  obtain ⟨p0, p1, p2, p3, p4, _, _, _, _, _, _⟩ := five_cell HFX.out
  obtain ⟨y0, y1, y2, y3, y4, _, _, _, _, _, _⟩ := five_cell HKX.out
  have n1a : ¬ K = WX.heap.size := by omega
  have n1b : ¬ WX.heap.size = K := by omega
  have n1c : ¬ F = WX.heap.size := by omega
  have n1d : ¬ WX.heap.size = F := by omega
  go_region_held3 (fun w' => w'.cell? ⟨K, 0, none⟩ = some (.int .i64 l1.e) ∧ w'.cell? ⟨K, 1, none⟩ = some (.int .i64 l1.n) ∧ w'.cell? ⟨K, 2, none⟩ = some (.slice l1.sA l1.s.length l1.sc) ∧ w'.cell? ⟨K, 3, none⟩ = some (.slice l1.qA l1.q.length l1.qc) ∧ w'.cell? ⟨K, 4, none⟩ = some (.int .i64 l1.h) ∧ w'.cell? ⟨F, 0, none⟩ = some (.int .i64 fk) ∧ w'.cell? ⟨F, 1, none⟩ = some (.int .i64 fh) ∧ w'.cell? ⟨F, 2, none⟩ = some (.int .i64 fe) ∧ w'.cell? ⟨F, 3, none⟩ = some (.slice fA fp.length fc) ∧ w'.cell? ⟨F, 4, none⟩ = some (.string fs))
    (go_keep)
    ((first
    | (go_simp; go_at_call 19; refine (HFC.out _ (Sl.later HOX.out (by repeat (first | exact Below.refl _ _ | apply bAlloc | apply Below.drew)))).mono ?_; rintro e w2 ⟨A2, c2, rfl, ho2, hb2⟩; have HB2 : Below WX.heap.size WX w2 := bThen (by repeat (first | exact Below.refl _ _ | apply bAlloc | apply Below.drew)) hb2
       (try (have HZ2 : LinkAt w2 WX.heap.size zeroL := (hb2.block _ (by simp)).trans (heap_alloc_new _ _); obtain ⟨z0, z1, z2, z3, z4, z5, z6, z7, z8, z9, za⟩ := five_cell HZ2))
       obtain ⟨y0, y1, y2, y3, y4, _, _, _, _, _, _⟩ := five_cell ((HB2.block _ hKz).trans HKX.out); obtain ⟨q0, q1, q2, q3, q4, _, _, _, _, _, _⟩ := five_cell ((HB2.block _ hFz).trans HFX.out); (have n2a : ¬ K = w2.heap.size := (by have := HB2.size; omega)); (have n2b : ¬ w2.heap.size = K := (by omega)); (have n2c : ¬ F = w2.heap.size := (by have := HB2.size; omega)); (have n2d : ¬ w2.heap.size = F := (by omega)))
    | (go_simp; go_at_call 18; refine (hC.out _ l1 ⟨fk, fh, fe, ⟨A2, c2, fp⟩, fs⟩ HD1.out rfl (HTX.out.later (bThen HB2 (by repeat (first | exact Below.refl _ _ | apply bAlloc | apply Below.drew)))) (HI1.out.later (bThen HB2 (by repeat (first | exact Below.refl _ _ | apply bAlloc | apply Below.drew)))) (Sl.later (ho2.moved (S' := (· < w2.heap.size)) fun _ hx => ⟨hx.2, rfl⟩) (by repeat (first | exact Below.refl _ _ | apply bAlloc | apply Below.drew)))).mono ?_; rintro e w3 ⟨l3, A3, c3, L3, rfl, hd3, hp3, hi3, ho3, hb3⟩
       have HB3 : Below WX.heap.size WX w3 := bThen HB2 (bThen (by repeat (first | exact Below.refl _ _ | apply bAlloc | apply Below.drew)) hb3)
       (try (have HZ3a : LinkAt w3 WX.heap.size zeroL := (hb3.block _ za).trans HZ2; obtain ⟨z0, z1, z2, z3, z4, z5, z6, z7, z8, z9, za⟩ := five_cell HZ3a))
       (try (have HZ3b : LinkAt w3 w2.heap.size zeroL := (hb3.block _ (by simp)).trans (heap_alloc_new _ _); obtain ⟨z0, z1, z2, z3, z4, z5, z6, z7, z8, z9, za⟩ := five_cell HZ3b))
       obtain ⟨y0, y1, y2, y3, y4, _, _, _, _, _, _⟩ := five_cell ((HB3.block _ hKz).trans HKX.out); obtain ⟨q0, q1, q2, q3, q4, _, _, _, _, _, _⟩ := five_cell ((HB3.block _ hFz).trans HFX.out); (have n3a : ¬ K = w3.heap.size := (by have := HB3.size; omega)); (have n3b : ¬ w3.heap.size = K := (by omega)); (have n3c : ¬ F = w3.heap.size := (by have := HB3.size; omega)); (have n3d : ¬ w3.heap.size = F := (by omega)))))
  all_goals (
    have hn3 : L3.length = Ps.length := by rw [← hp3, List.length_map]
    first
      | (refine post_hide (HeldL WX w2.heap.size l3 A3 L3) (heldL_set HZ3b hi3 ho3 HB3 HB2.size) ?_; clear HZ3b z0 z1 z2 z3 z4 z5 z6 z7 z8 z9 za y0 y1 y2 y3 y4 ho3 hi3 hb3 HB3 hb2; generalize w2.heap.size = Q; clear HB2 ho2)
      | (refine post_hide (HeldL WX WX.heap.size l3 A3 L3) (heldL_set HZ3a hi3 ho3 HB3 (Nat.le_refl _)) ?_; clear HZ3a HZ2 z0 z1 z2 z3 z4 z5 z6 z7 z8 z9 za y0 y1 y2 y3 y4 ho3 hi3 hb3 HB3 hb2 HB2 ho2; obtain ⟨Q, hQ⟩ : ∃ Q, Q = WX.heap.size := ⟨_, rfl⟩; rw [← hQ]; clear hQ)
      | (refine post_hide (HeldL WX w3.heap.size l3 A3 L3) (heldL_new hi3 ho3 HB3) ?_; clear y0 y1 y2 y3 y4 ho3 hi3 hb3 HB3 hb2 HB2 ho2; generalize w3.heap.size = Q)
    rintro G hG
    rw [hn3]
    have HN3 := Lib.hid hn3
    have HD3 := Lib.hid hd3
    have HP3 := Lib.hid hp3
    have hg1 := hG.b.size
    have HG := Lib.hid hG
    clear hG hd3 hp3 hn3 p0 p1 p2 p3 p4
    obtain ⟨e0, e1, e2, e3, e4, _, _, _, _, _, _⟩ := five_cell ((HG.out.b.block _ hPz).trans HPX.out)
    obtain ⟨p0, p1, p2, p3, p4, _, _, _, _, _, _⟩ := five_cell ((HG.out.b.block _ hFz).trans HFX.out)
    go_wp2_with fail
    refine (hR.out _ (HTX.out.later HG.out.b) (HIX.out.later HG.out.b) (Sl.later HOX.out HG.out.b)).mono ?_
    rintro e w4 ⟨l4, A4, c4, L4, rfl, hd4, hp4, hi4, ho4, hb4⟩
    have hn4 : L4.length = Ps.length := by rw [← hp4, List.length_map]
    rw [hn4]
    obtain ⟨WZ, hWZ⟩ : ∃ WZ, WZ = w4.alloc (.cells #[.int .i64 l4.e, .int .i64 l4.n, .slice l4.sA l4.s.length l4.sc, .slice l4.qA l4.q.length l4.qc, .int .i64 l4.h] 24) := ⟨_, rfl⟩
    obtain ⟨P4, hP4⟩ : ∃ P4, P4 = w4.heap.size := ⟨_, rfl⟩
    have hkZ : Below w4.heap.size w4 WZ := by rw [hWZ]; exact bAlloc (Below.refl _ _) _
    have hGZ := bThen hb4 hkZ
    have hXZ := bThen HG.out.b hGZ
    have HBZ := Lib.hid (bThen HBX.out hXZ)
    have HE3 := Lib.hid (show LinkAt WZ Q l3 from (hGZ.block _ (five_cell HG.out.e).2.2.2.2.2.2.2.2.2.2).trans HG.out.e)
    have HE4 := Lib.hid (show LinkAt WZ P4 l4 by rw [hWZ, hP4]; exact heap_alloc_new _ _)
    have HE1 := Lib.hid (show LinkAt WZ K l1 from (hXZ.block _ hKz).trans HKX.out)
    have HE0 := Lib.hid (show LinkAt WZ w.heap.size l from (hXZ.block _ hPz).trans HPX.out)
    have HI3 := Lib.hid (HG.out.i.later hGZ)
    have HI4 := Lib.hid (hi4.later hkZ)
    have HL3 := Lib.hid (HG.out.p.later hGZ)
    have HL4 := Lib.hid (ho4.later hkZ)
    have HI1Z := Lib.hid (HI1.out.later hXZ)
    have HI0Z := Lib.hid (HIX.out.later hXZ)
    have HWZ := Lib.hid hWZ
    have HPP := Lib.hid hP4
    have HE3b := Lib.hid ((hb4.block _ (five_cell HG.out.e).2.2.2.2.2.2.2.2.2.2).trans HG.out.e)
    have HD4 := Lib.hid (show l4.d = l3.d from hd4.trans HD3.out.symm)
    have HP4 := Lib.hid (show L4.map PacketV.d = L3.map PacketV.d from hp4.trans HP3.out.symm)
    clear hkZ hGZ hXZ hWZ hP4 hb4 hd4 hp4 hi4 ho4 e0 e1 e2 e3 e4 p0 p1 p2 p3 p4
    obtain ⟨e0, e1, e2, e3, e4, _, _, _, _, _, _⟩ := five_cell HE3b.out
    go_wp2_with fail
    rw [← HWZ.out, ← HPP.out]
    refine (sameLink_c _ l3 l4 HI3.out HI4.out HD4.out ?_ ?_).mono ?_
    · have h1 := congrArg (fun x => (x.s.length, x.q.length)) HD3.out
      simp only [List.length_map, Prod.mk.injEq] at h1
      have h2 := HD.out.2.1
      omega
    · exact ⟨lens_of (by have := HD.out.1.1; rw [← HD3.out] at this; exact this), lens_of (by have := HD.out.1.2; rw [← HD3.out] at this; exact this)⟩
    rintro e w5 ⟨rfl, hb5⟩
    have HB5 := Lib.hid (bThen HBZ.out hb5)
    have HL3 := Lib.hid (HL3.out.later hb5)
    have HL4 := Lib.hid (HL4.out.later hb5)
    have HI1Z := Lib.hid (HI1Z.out.later hb5)
    have HI0Z := Lib.hid (HI0Z.out.later hb5)
    have HE1 := Lib.hid ((hb5.block _ (five_cell HE1.out).2.2.2.2.2.2.2.2.2.2).trans HE1.out)
    have HE0 := Lib.hid ((hb5.block _ (five_cell HE0.out).2.2.2.2.2.2.2.2.2.2).trans HE0.out)
    clear hb5 e0 e1 e2 e3 e4
    go_wp2_with fail
    refine (samePackets_c _ A3 A4 c3 c4 Ps.length L3 L4 HL3.out HL4.out HP4.out HN3.out (by have := HD.out.2.2.1; omega) (fun p hp => by
      have h2 := HD.out.2.2.2 p.d (by rw [← HP3.out]; exact List.mem_map.2 ⟨p, hp, rfl⟩)
      exact h2)).mono ?_
    rintro e w6 ⟨rfl, hb6⟩
    have HB6 := Lib.hid (bThen HB5.out hb6)
    have HI1Z := Lib.hid (HI1Z.out.later hb6)
    have HI0Z := Lib.hid (HI0Z.out.later hb6)
    obtain ⟨e0, e1, e2, e3, e4, _, _, _, _, _, _⟩ := five_cell ((hb6.block _ (five_cell HE1.out).2.2.2.2.2.2.2.2.2.2).trans HE1.out)
    obtain ⟨p0, p1, p2, p3, p4, _, _, _, _, _, _⟩ := five_cell ((hb6.block _ (five_cell HE0.out).2.2.2.2.2.2.2.2.2.2).trans HE0.out)
    clear hb6
    go_wp2_with fail
    refine (sameLink_c _ l1 l HI1Z.out HI0Z.out HD1.out.symm ?_ ?_).mono ?_
    · have h1 := congrArg (fun x => (x.s.length, x.q.length)) HD1.out
      simp only [List.length_map, Prod.mk.injEq] at h1
      have h2 := HM.out.sl
      have h3 := HM.out.ql
      omega
    · exact ⟨lens_of (by have := HM.out.ops.1; rw [← HD1.out] at this; exact this), lens_of (by have := HM.out.ops.2; rw [← HD1.out] at this; exact this)⟩
    rintro e w7 ⟨rfl, hb7⟩
    go_wp2
    go_ret
    exact ⟨by simp, bThen HB6.out hb7⟩)
theorem walk (w : World) (l : LinkV) (f : FrameV) (hT : Tabs w) (hi : l.In w) (hfl : l.Fit) (hf : OpIn (· < w.heap.size) w f.o.A f.o.ps) (hff : f.Fit) :
    Calls Tryd.prog 4 #[l.val, frameV f.k f.h f.e f.o.A f.o.ps.length f.o.c f.s] w fun e w' => e = .returned (.bool true) ∧ Below w.heap.size w w' := by
  have hm := hfl.small
  have hfm := hff.small
  have hz : opsSmall zeroL.d ∧ (zeroL.d.s.length ≤ 1048577 ∧ zeroL.d.q.length ≤ 1048577) ∧ ([] : List PacketD).length ≤ 8 ∧ ∀ p ∈ ([] : List PacketD), p.frame.op.length ≤ 1048576 := ⟨⟨by simp, by simp⟩, ⟨by simp, by simp⟩, by simp, by simp⟩
  by_cases hk : linkMay l
  · have hk' : ∀ l' : LinkV, l'.d = l.d → linkMay l' := fun l' hd => linkMay_d hd hk
    have he' : ∀ l' : LinkV, l'.d = l.d → l'.e = l.e ∧ l'.n = l.n := fun l' hd => ⟨congrArg LinkD.e hd, congrArg LinkD.n hd⟩
    by_cases h0 : l.e = 0
    · exact walk_of w l f hT hi hm hf hfm _ _ 12 hz (fun W l' f' hd hd2 hT hi ho => Send_away W l' f' hT hi (hm.of_d hd) (hk' l' hd) (by rw [(he' l' hd).1]; exact h0)) (fun W hT hi ho => Sent_away W l f hT hi hm hk h0)
    by_cases he : frameFault f.d = 0
    · by_cases h1 : l.n = 1048576
      · exact walk_of w l f hT hi hm hf hfm _ _ 8 hz (fun W l' f' hd hd2 hT hi ho => Send_full W l' f' hT hi (hm.of_d hd) ho (hfm.of_d hd2) (hk' l' hd) (by rw [(he' l' hd).1]; exact h0) (by rw [hd2]; exact he) (by rw [(he' l' hd).2]; exact h1)) (fun W hT hi ho => Sent_full W l f hT hi hm ho hfm hk h0 he h1)
      · have hw := wait_small (f := f.d) hm.ops hfm.op.len
        have h8 := hk.2.1.1
        refine walk_of w l f hT hi hm hf hfm (fillL (waitL l.d f.d)) (fillP (waitL l.d f.d)) 0 ⟨fillL_small hw, ⟨?_, ?_⟩, fillP_small hw⟩ (fun W l' f' hd hd2 hT hi ho => ?_) (fun W hT hi ho => Sent_ok W l f hT hi hm ho hfm hk h0 he h1)
        · have h9 := (fillN_le (waitL l.d f.d)).1
          show ((waitL l.d f.d).s ++ (waitL l.d f.d).q.take (fillN (waitL l.d f.d))).length ≤ _
          rw [List.length_append, List.length_take]
          show (l.s.map FrameV.d).length + _ ≤ _
          rw [List.length_map]
          omega
        · have h9 := hm.ql
          show ((waitL l.d f.d).q.drop (fillN (waitL l.d f.d))).length ≤ _
          rw [List.length_drop]
          show (l.q.map FrameV.d ++ [f.d]).length - _ ≤ _
          simp
          omega
        · have := Send_ok W l' f' hT hi (hm.of_d hd) ho (hfm.of_d hd2) (hk' l' hd) (by rw [(he' l' hd).1]; exact h0) (by rw [hd2]; exact he) (by rw [(he' l' hd).2]; exact h1)
          rwa [hd, hd2] at this
    · exact walk_of w l f hT hi hm hf hfm _ _ (frameFault f.d) hz (fun W l' f' hd hd2 hT hi ho => Send_fault W l' f' hT hi (hm.of_d hd) ho (hfm.of_d hd2) (hk' l' hd) (by rw [(he' l' hd).1]; exact h0) _ (by rw [hd2]) he) (fun W hT hi ho => Sent_fault W l f hT hi hm ho hfm hk h0 _ rfl he)
  · exact walk_of w l f hT hi hm hf hfm _ _ 9 hz (fun W l' f' hd hd2 hT hi ho => Send_state W l' f' hT hi (hm.of_d hd) (fun q => hk (linkMay_d hd.symm q))) (fun W hT hi ho => Sent_state W l f hT hi hm hk)
theorem contract (H : Type) (enc : TypeId × Value → H) (W : World) (base : Nat) (args : Array Value) (ds gs : List (DataW H)) (before : List MemPlace)
    (hval0 : ∀ (j : Nat) t v, Tryd.f4.params[j]? = some t → args[j]? = some v → Value.okWide Tryd.prog W .any base t v)
    (hW : DataW.Whole enc Tryd.prog Tryd.f4.params.toList Rows.linkSendsSpec.vars false W args.toList ds gs before) (hk : Rows.uptoSmall H (ds ++ gs) = true) (hT : Tabs W) :
    Calls Tryd.prog 4 args W fun e W' => ∃ v, e = .returned v ∧ Rows.linkSendsSpec.post enc Tryd.prog Tryd.f4 false true false false W args v W' := by
  have hval : ∀ (j : Nat) t v, Tryd.f4.params[j]? = some t → args[j]? = some v → Value.okWide Tryd.prog W .any base t v := hval0
  have hW' := hW
  obtain ⟨p, q, hA0, hV, rfl, hfz, hnd⟩ := hW
  have hA : DataW.TrodAll enc Tryd.prog W 0 (fun _ => true) true Tryd.f4.params.toList args.toList ds p := hA0
  rw [Tryd.params4] at hA hval
  obtain ⟨rfl, rfl⟩ := trodVars_none hV
  obtain ⟨v0, vs0, d0, ds0, p0, q0, hargs, rfl, rfl, h0, r0⟩ := trodAll_cons hA
  obtain ⟨v1, vs1, d1, ds1, p1, q1, rfl, rfl, rfl, h1, r1⟩ := trodAll_cons r0
  obtain ⟨rfl, rfl, rfl⟩ := trodAll_nil r1
  obtain rfl : args = #[v0, v1] := by cases args; simp_all
  have hbulk := bulk_small hk
  have hb0 := Nat.le_trans (bulk_mem (show d0 ∈ [d0, d1] ++ [] by simp)) hbulk
  have hb1 := Nat.le_trans (bulk_mem (show d1 ∈ [d0, d1] ++ [] by simp)) hbulk
  obtain ⟨cs0, rfl, _⟩ := okWide_struct Tryd.underlying24 (hval 0 24 v0 rfl rfl)
  obtain ⟨m0, hm0⟩ := h0
  obtain ⟨l, hv0, hin, hfit⟩ := open_link hm0 hb0
  obtain ⟨cs1, rfl, _⟩ := okWide_struct Tryd.underlying35 (hval 1 35 v1 rfl rfl)
  obtain ⟨m1, hm1⟩ := h1
  obtain ⟨k, h, ep, A, c, ps, s, hv1, _, _, _, ⟨g1, g2, hs, hpl, ht⟩, hst⟩ := open_frame hm1 hb1
  obtain ⟨l0⟩ := cs0
  obtain rfl : l0 = _ := hv0
  obtain ⟨l1⟩ := cs1
  obtain rfl : l1 = _ := hv1
  refine (walk W l ⟨k, h, ep, ⟨A, c, ps⟩, s⟩ hT hin hfit hs ⟨⟨hpl, ht, g1, g2⟩, hst⟩).mono fun e W' ⟨he, hg⟩ => ?_
  subst he
  exact ⟨_, rfl, post_law (tb := 4) laidOut (by kernel_rfl) rfl (by kernel_rfl) Tryd.underlying4 rfl hW' hg⟩
theorem reads (os : Os) {H : Type} (enc : TypeId × Value → H) : ∃ places, DataW.whole enc Tryd.prog ((laidWorld os).forCall (fun _ _ => 0) ⟨#[], #[.agg #[.int .i64 0, .int .i64 0, .slice none 0 0, .slice none 0 0, .int .i64 0], .agg #[.int .i64 0, .int .i64 0, .int .i64 0, .slice none 0 0, .string ⟨#[]⟩]], []⟩).memory Tryd.f4.params.toList Rows.linkSendsSpec.vars false #[.agg #[.int .i64 0, .int .i64 0, .slice none 0 0, .slice none 0 0, .int .i64 0], .agg #[.int .i64 0, .int .i64 0, .int .i64 0, .slice none 0 0, .string ⟨#[]⟩]].toList 8 = some ([.agg [.lit (.int .i64 0), .lit (.int .i64 0), .nil, .nil, .lit (.int .i64 0)], .agg [.lit (.int .i64 0), .lit (.int .i64 0), .lit (.int .i64 0), .nil, .lit (.string [])]], [], places) := by
  have hw : (DataW.whole enc Tryd.prog ((laidWorld os).forCall (fun _ _ => 0) ⟨#[], #[.agg #[.int .i64 0, .int .i64 0, .slice none 0 0, .slice none 0 0, .int .i64 0], .agg #[.int .i64 0, .int .i64 0, .int .i64 0, .slice none 0 0, .string ⟨#[]⟩]], []⟩).memory Tryd.f4.params.toList Rows.linkSendsSpec.vars false #[.agg #[.int .i64 0, .int .i64 0, .slice none 0 0, .slice none 0 0, .int .i64 0], .agg #[.int .i64 0, .int .i64 0, .int .i64 0, .slice none 0 0, .string ⟨#[]⟩]].toList 8).map (fun x => (x.1, x.2.1)) = some ([.agg [.lit (.int .i64 0), .lit (.int .i64 0), .nil, .nil, .lit (.int .i64 0)], .agg [.lit (.int .i64 0), .lit (.int .i64 0), .lit (.int .i64 0), .nil, .lit (.string [])]], []) := by kernel_rfl
  obtain ⟨⟨x1, x2, x3⟩, hx, hx1⟩ := Option.map_eq_some_iff.1 hw
  simp only [Prod.mk.injEq] at hx1
  obtain ⟨rfl, rfl⟩ := hx1
  exact ⟨x3, hx⟩
theorem lifted (os : Os) (started : os.Started) (H : Type) (enc : TypeId × Value → H) (F : Stop.Interp) :
    ReturnsInHanded {} Tryd.checked os 4 .any ((Rows.OpenSpec.upto Rows.linkSendsSpec).preRow enc Tryd.prog Tryd.f4 Rows.linkSendsUptoRow.domain false Rows.linkSendsUptoRow.laid) (((Rows.OpenSpec.upto Rows.linkSendsSpec).at F).post enc Tryd.prog Tryd.f4 false true false false) := by
  obtain ⟨places, hx⟩ := reads os enc
  refine returnsInHanded_of_row (C := Tryd.checked) (s := Rows.OpenSpec.upto Rows.linkSendsSpec) own started (by kernel_rfl) Tryd.func4
    (witness_row_atRef (enc := enc) (C := Tryd.checked) false (laidWorld os) #[.agg #[.int .i64 0, .int .i64 0, .slice none 0 0, .slice none 0 0, .int .i64 0], .agg #[.int .i64 0, .int .i64 0, .int .i64 0, .slice none 0 0, .string ⟨#[]⟩]] rfl (by kernel_rfl) (by kernel_rfl) (by kernel_rfl)
      (OpenSpec.preRow_of_cond 8 hx (by kernel_rfl) (fun k hk => by cases hk; kernel_rfl) (by kernel_rfl) (laid_met os _))) ?_
  intro W base args ds gs before hval hW _ hcond _ hL _ _
  exact contract H enc W base args ds gs before hval hW (hcond _ rfl) (tabs_of hL)
theorem said : Rows.LinkSendsUptoSaid :=
  OpenClaim.holds_of_cond 4 Tryd.f4 rfl rfl rfl rfl rfl rfl rfl ⟨rfl, rfl, rfl, rfl, rfl⟩ rfl rfl rfl rfl rfl (by kernel_rfl) Tryd.func4 (by kernel_rfl)
    (of_decide_eq_true (by kernel_rfl)) (by unfold Func.isWrapper; first | (rw [if_pos (by decide +kernel)]; kernel_rfl) | (rw [if_neg (by decide +kernel)]; exact ⟨rfl, rfl⟩))
    (fun os started H enc _ F => by rw [OpenClaim.pre_eq_preRow]; exact lifted os started H enc F)
theorem plain (f : FuncId) (fn : Func) (hf : Tryd.pinned.checked.prog.funcNamed "wherry/wherrylaw.LinkSends" = some f) (hfn : Tryd.pinned.checked.prog.funcs[f]? = some fn) :
    false = Tryd.pinned.checked.prog.looks [] ∧ ∀ (j : Nat) t, fn.params[j]? = some t → Tryd.pinned.checked.prog.wantsStandIn t = false := by
  obtain rfl : f = 4 := Option.some.inj ((show Tryd.prog.funcNamed "wherry/wherrylaw.LinkSends" = some 4 by kernel_rfl).symm.trans hf) |>.symm
  obtain rfl : fn = Tryd.f4 := (Option.some.inj (Tryd.func4.symm.trans hfn)).symm
  refine ⟨by kernel_rfl, fun j t ht => ?_⟩
  have hall : (Tryd.f4.params.toList.all fun u => !Tryd.prog.wantsStandIn u) = true := by kernel_rfl
  have hm : t ∈ Tryd.f4.params.toList := by simpa using Array.mem_of_getElem? ht
  exact (show Tryd.prog.wantsStandIn t = false by simpa using List.all_eq_true.1 hall t hm)
theorem card : Rows.LinkSendsUptoCardSaid :=
  Claim7.holds_tied_plain_at .later [] _ _ _ _ said (fun _ h => by cases h) (by kernel_rfl) (fun _ h => by cases h) linkSendsUpto_row_tie rfl ⟨rfl, rfl⟩ (by kernel_rfl) rfl plain (by kernel_rfl)
end linkSends
end Go.Proofs.YtieofljkgmkaiaaDoor
