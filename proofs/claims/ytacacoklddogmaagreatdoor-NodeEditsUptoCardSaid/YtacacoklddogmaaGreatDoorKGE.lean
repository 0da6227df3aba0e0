/- A part of the proof of NodeEdits. -/
import Derived.Test.YtacacoklddogmaaGreatDoorKGD
namespace Go.Proofs.YtacacoklddogmaaGreatDoor
set_option maxHeartbeats 4000000
open Go.ChangeShapes Go.WideShapes Go.ChangeAt Go.RowKit Go.Joins Go.Deep
set_option maxRecDepth 100000
end Go.Proofs.YtacacoklddogmaaGreatDoor
namespace Go.Proofs.YtacacoklddogmaaGreatDoor
set_option maxHeartbeats 4000000
open Go.ChangeShapes Go.WideShapes Go.ChangeAt Go.RowKit
set_option maxRecDepth 100000
theorem hh_ {zs : List Int} {n : NodeV} (h : nodeFault zs n = 0) : nodeMay zs n := by
 unfold nodeFault at h
 split at h
 · exact absurd h (by assumption)
 · split at h
   · assumption
   · cases h
structure TickAt (w : World) (R : Nat) (nv : Array Value) (W : World) : Prop where
 nd : W.heap[w.heap.size]? = some (.cells nv 28 (0, 0))
 r : W.heap[R]? = some (.cells z_ 35 (0, 0))
 b : Below w.heap.size w W
 hr : w.heap.size < R
 rz : R < W.heap.size
theorem TickAt.later {w W W' : World} {R : Nat} {nv : Array Value} (k : TickAt w R nv W) (hb : Below W.heap.size W W') : TickAt w R nv W' := by
 have h1 := k.hr
 have h2 := k.rz
 have h3 := hb.size
 exact ⟨(hb.block _ (by omega)).trans k.nd, (hb.block _ h2).trans k.r, bThen k.b hb, h1, by omega⟩
theorem TickAt.new (w : World) (nv : Array Value) : TickAt w (w.heap.size + 1) nv ((w.alloc (.cells nv 28)).alloc (.cells z_ 35)) := by
 refine ⟨(p_ _ _ _ (by simp)).trans (World.alloc_heap_new _ _), ?_, bAlloc bA_ _, by omega, by simp⟩
 have := World.alloc_heap_new (w.alloc (.cells nv 28)) (.cells z_ 35)
 rwa [World.size_alloc] at this
theorem TickAt.turned {w W W' : World} {R : Nat} {nv : Array Value} (k : TickAt w R nv W) {X : Nat} (hX : R < X) (ht : Turned W W' X none) : TickAt w R nv W' := by
 have h1 := k.hr
 have h2 := k.rz
 have h3 := ht.size
 have h4 := k.b.size
 exact ⟨(ht.block _ (by omega) (by omega) (by simp)).trans k.nd, (ht.block _ h2 (by omega) (by simp)).trans k.r, k.b.trans (ht.below (by omega) (by simp) h4), h1, by omega⟩
theorem sd_ (w : World) (T : Option Addr) (N Nc : Nat) (zs : List Int) (n : NodeV) (hT : Tabs w) (hi : n.In w) (hm : n.Small) (hz : Sl (· < w.heap.size) w 1 T N (zs.map (Value.int .i64))) (hN : N ≤ 9223372036854775807) (pA : Option Addr) (pc : Nat) (ps : List PartD) (er : Int) (h0 : nodeFault zs n = er) (hne : (er == 0) = false) : Calls Tryz.prog 7 #[.slice T N Nc, n.val, .slice pA ps.length pc] w (RetTurnR w zeroD er) := by
 have H1 := h_ (fun W hT (hi : n.In W) hz => xj_ W T N Nc zs n hT hi hm hz hN er h0 hne)
 have HT := h_ hT
 have HZ := h_ hz
 have HI := h_ hi
 clear hT hz hi hm h0
 have HA := h_ (TickAt.new w n.cv)
 obtain ⟨WA, hWA⟩ : ∃ WA, WA = ((w.alloc (.cells n.cv 28)).alloc (.cells z_ 35)) := ⟨_, rfl⟩
 rw [← hWA] at HA
 have HW := h_ hWA.symm
 obtain ⟨R, hR⟩ : ∃ R, R = w.heap.size + 1 := ⟨_, rfl⟩
 rw [← hR] at HA
 have HRE := h_ hR.symm
 clear hWA hR
 go_enter Tryz.func7, Tryz.ntmps7
 go_wp2_with fail
 rw [HW.out, HRE.out]
 refine (H1.out _ (HT.out.later HA.out.b) (HI.out.later HA.out.b) (Sl.later HZ.out HA.out.b)).mono ?_
 rintro r w1 ⟨rfl, hb1⟩
 have HRB := h_ (HA.out.later hb1).r
 have HBB := h_ (HA.out.later hb1).b
 clear hb1
 have hne' : (er != 0) = true := by simp [bne, hne]
 obtain ⟨r0, r1, r2, r3, r4, r5, r6, r7, r8, r9, rz⟩ := j_ HRB.out
 have F0 := tenF HRB.out 0
 have F1 := tenF HRB.out 1
 have F2 := tenF HRB.out 2
 have F3 := tenF HRB.out 3
 have F4 := tenF HRB.out 4
 have F5 := tenF HRB.out 5
 have F6 := tenF HRB.out 6
 have F7 := tenF HRB.out 7
 have F8 := tenF HRB.out 8
 have F9 := tenF HRB.out 9
 go_wp2_with fail
 refine m_ (fun H => H.heap[R]? = some (.cells z_ 35 (0, 0)) ∧ Below w.heap.size w H) ⟨ej_ HRB.out _ _ _ _ _ _ _ _ _ _, ?_⟩ ?_
 · have hwR : w.heap.size ≤ R := by have := HA.out.hr; omega
   repeat (refine bSet ?_ (by exact hwR) _)
   exact HBB.out
 clear r0 r1 r2 r3 r4 r5 r6 r7 r8 r9 rz F0 F1 F2 F3 F4 F5 F6 F7 F8 F9
 rintro H ⟨j1, j3⟩
 obtain ⟨r0, r1, r2, r3, r4, r5, r6, r7, r8, r9, rz⟩ := j_ j1
 refine bodyPost_ret (v := .tuple #[.agg #[.int .i64 0, .int .i64 0, .int .i64 0, .bool false, .string ⟨#[]⟩, .slice none 0 0, .slice none 0 0, .slice none 0 0, .slice none 0 0, .slice none 0 0], .int .i64 er]) (by simp [results, Tryz.results7, go_sem, r0, r1, r2, r3, r4, r5, r6, r7, r8, r9]) rfl ?_
 exact ⟨⟨zeroN, none, 0, [], none, 0, []⟩, rfl, rfl, fs_ _ _, RowOwn.nil _ _, RowOwn.nil _ _, j3⟩
theorem xt_ (w : World) (T : Option Addr) (N Nc : Nat) (zs : List Int) (n : NodeV) (hT : Tabs w) (hi : n.In w) (hm : n.Small) (hz : Sl (· < w.heap.size) w 1 T N (zs.map (Value.int .i64))) (hN : N ≤ 9223372036854775807) (pA : Option Addr) (pc : Nat) (ps : List PartD) (hop : OpIn (· < w.heap.size) w pA ps) (hpl : ps.length ≤ 1048576) (hpt : ∀ p ∈ ps, p.text.size ≤ 1048576) (h0 : nodeFault zs n = 0) (er : Int) (hE : editErr n.d ps = er) (hne : er ≠ 0) : Calls Tryz.prog 7 #[.slice T N Nc, n.val, .slice pA ps.length pc] w (RetTurnR w zeroD er) := by
 have HT := h_ hT
 have HZ := h_ hz
 have HI := h_ hi
 have HM := h_ hm
 have HOP := h_ hop
 have H1 := h_ (fun W hT (hi : n.In W) hz => sq_ W T N Nc zs n hT hi hm hz hN h0)
 have H2 := h_ (fun W base X s hT h hop hS hE => zf_ W base X s pA pc ps hT h hop hpl hpt hS er hE hne)
 have HER := h_ hE
 have hne' : (er != 0) = true := by simpa using hne
 clear hT hz hi hm h0 hop hpl hpt hE hne
 have HA := h_ (TickAt.new w n.cv)
 obtain ⟨WA, hWA⟩ : ∃ WA, WA = ((w.alloc (.cells n.cv 28)).alloc (.cells z_ 35)) := ⟨_, rfl⟩
 rw [← hWA] at HA
 have HW := h_ hWA.symm
 obtain ⟨R, hR⟩ : ∃ R, R = w.heap.size + 1 := ⟨_, rfl⟩
 rw [← hR] at HA
 have HRE := h_ hR.symm
 clear hWA hR
 go_enter Tryz.func7, Tryz.ntmps7
 go_wp2_with fail
 rw [HW.out, HRE.out]
 refine (H1.out _ (HT.out.later HA.out.b) (HI.out.later HA.out.b) (Sl.later HZ.out HA.out.b)).mono ?_
 rintro r w1 ⟨X, n', W2, rfl, hd, hX, hx, hfree, hXW, hb2, hb1⟩
 have HB := h_ (HA.out.later hb1)
 obtain ⟨s0, hs0⟩ : ∃ s0 : EdV, s0 = ⟨n', none, 0, [], none, 0, []⟩ := ⟨_, rfl⟩
 have HE := h_ (show EdAt 71 w1 WA.heap.size X s0 by rw [hs0]; exact EditAt.new hfree hXW hX hb2 hx)
 have HSD := h_ (show s0.d = ⟨n.d, [], []⟩ by rw [hs0]; exact EdD.ext' hd rfl rfl)
 have HSN := h_ (show s0.n.d = n.d by rw [hs0]; exact hd)
 have HSS := h_ (show s0.n.Small by rw [hs0]; exact NodeV.Small.of_d hd HM.out)
 have HSL := h_ (show s0.L.length = 0 ∧ s0.RL.length = 0 by rw [hs0]; exact ⟨rfl, rfl⟩)
 have HTE := h_ (show ∀ W, Below WA.heap.size w1 W → Tabs W from fun W hb => HT.out.later (HB.out.b.trans (hb.mono HA.out.b.size)))
 have HOE := h_ (show OpIn (Off w1 X s0) w1 pA ps from HOP.out.moved fun b hb => ⟨HE.out.off (by have := HA.out.b.size; omega), HB.out.b.block b hb⟩)
 have hRX : R < X := by have := HA.out.rz; omega
 clear hd hx hfree hXW hb2 hb1 hs0
 go_wp2_with fail
 refine (H2.out w1 _ X s0 HTE.out HE.out HOE.out HSS.out (by rw [HSN.out]; exact HER.out)).mono ?_
 rintro r w3 ⟨rfl, hb3⟩
 have HRB := h_ (HB.out.later hb3).r
 have HBB := h_ (HB.out.later hb3).b
 clear hb3
 obtain ⟨r0, r1, r2, r3, r4, r5, r6, r7, r8, r9, rz⟩ := j_ HRB.out
 have F0 := tenF HRB.out 0
 have F1 := tenF HRB.out 1
 have F2 := tenF HRB.out 2
 have F3 := tenF HRB.out 3
 have F4 := tenF HRB.out 4
 have F5 := tenF HRB.out 5
 have F6 := tenF HRB.out 6
 have F7 := tenF HRB.out 7
 have F8 := tenF HRB.out 8
 have F9 := tenF HRB.out 9
 go_wp2_with fail
 refine m_ (fun H => H.heap[R]? = some (.cells z_ 35 (0, 0)) ∧ Below w.heap.size w H) ⟨ej_ HRB.out _ _ _ _ _ _ _ _ _ _, ?_⟩ ?_
 · have hwR : w.heap.size ≤ R := by have := HA.out.hr; omega
   repeat (refine bSet ?_ (by exact hwR) _)
   exact HBB.out
 clear r0 r1 r2 r3 r4 r5 r6 r7 r8 r9 rz F0 F1 F2 F3 F4 F5 F6 F7 F8 F9
 rintro H ⟨j1, j3⟩
 obtain ⟨r0, r1, r2, r3, r4, r5, r6, r7, r8, r9, rz⟩ := j_ j1
 refine bodyPost_ret (v := .tuple #[.agg #[.int .i64 0, .int .i64 0, .int .i64 0, .bool false, .string ⟨#[]⟩, .slice none 0 0, .slice none 0 0, .slice none 0 0, .slice none 0 0, .slice none 0 0], .int .i64 er]) (by simp [results, Tryz.results7, go_sem, r0, r1, r2, r3, r4, r5, r6, r7, r8, r9]) rfl ?_
 exact ⟨⟨zeroN, none, 0, [], none, 0, []⟩, rfl, rfl, fs_ _ _, RowOwn.nil _ _, RowOwn.nil _ _, j3⟩
theorem xn_ (w : World) (T : Option Addr) (N Nc : Nat) (zs : List Int) (n : NodeV) (hT : Tabs w) (hi : n.In w) (hm : n.Small) (hz : Sl (· < w.heap.size) w 1 T N (zs.map (Value.int .i64))) (hN : N ≤ 9223372036854775807) (pA : Option Addr) (pc : Nat) (ps : List PartD) (hop : OpIn (· < w.heap.size) w pA ps) (hpl : ps.length ≤ 1048576) (hpt : ∀ p ∈ ps, p.text.size ≤ 1048576) (h0 : nodeFault zs n = 0) (hE : editErr n.d ps = 0) : Calls Tryz.prog 7 #[.slice T N Nc, n.val, .slice pA ps.length pc] w (RetTurnR w (pushD (editDD ps ⟨n.d, [], []⟩) (invOut n.t ps)) 0) := by
 have HT := h_ hT
 have HZ := h_ hz
 have HI := h_ hi
 have HM := h_ hm
 have HOP := h_ hop
 have H1 := h_ (fun W hT (hi : n.In W) hz => sq_ W T N Nc zs n hT hi hm hz hN h0)
 have H2 := h_ (fun W base X s hT h hop hS hL hR hE => xw_ W base X s pA pc ps hT h hop hpl hpt hS hL hR hE)
 have HER := h_ hE
 have HU12 := h_ (show n.U.length ≤ 12 from (hh_ h0).2.1.2.1)
 obtain ⟨j0, hj0, hy0, hy1, hy2⟩ := info_parts infoOp
 clear hT hz hi hm h0 hop hpl hpt hE
 have HA := h_ (TickAt.new w n.cv)
 obtain ⟨WA, hWA⟩ : ∃ WA, WA = ((w.alloc (.cells n.cv 28)).alloc (.cells z_ 35)) := ⟨_, rfl⟩
 rw [← hWA] at HA
 have HW := h_ hWA.symm
 obtain ⟨R, hR⟩ : ∃ R, R = w.heap.size + 1 := ⟨_, rfl⟩
 rw [← hR] at HA
 have HRE := h_ hR.symm
 clear hWA hR
 go_enter Tryz.func7, Tryz.ntmps7
 go_wp2_with fail
 rw [HW.out, HRE.out]
 refine (H1.out _ (HT.out.later HA.out.b) (HI.out.later HA.out.b) (Sl.later HZ.out HA.out.b)).mono ?_
 rintro r w1 ⟨X, n', W2, rfl, hd, hX, hx, hfree, hXW, hb2, hb1⟩
 have HB := h_ (HA.out.later hb1)
 obtain ⟨s0, hs0⟩ : ∃ s0 : EdV, s0 = ⟨n', none, 0, [], none, 0, []⟩ := ⟨_, rfl⟩
 have HE := h_ (show EdAt 71 w1 WA.heap.size X s0 by rw [hs0]; exact EditAt.new hfree hXW hX hb2 hx)
 have HSD := h_ (show s0.d = ⟨n.d, [], []⟩ by rw [hs0]; exact EdD.ext' hd rfl rfl)
 have HSN := h_ (show s0.n.d = n.d by rw [hs0]; exact hd)
 have HSS := h_ (show s0.n.Small by rw [hs0]; exact NodeV.Small.of_d hd HM.out)
 have HSL := h_ (show s0.L.length = 0 ∧ s0.RL.length = 0 by rw [hs0]; exact ⟨rfl, rfl⟩)
 have HTE := h_ (show ∀ W, Below WA.heap.size w1 W → Tabs W from fun W hb => HT.out.later (HB.out.b.trans (hb.mono HA.out.b.size)))
 have HOE := h_ (show OpIn (Off w1 X s0) w1 pA ps from HOP.out.moved fun b hb => ⟨HE.out.off (by have := HA.out.b.size; omega), HB.out.b.block b hb⟩)
 have hRX : R < X := by have := HA.out.rz; omega
 clear hd hx hfree hXW hb2 hb1 hs0
 go_wp2_with fail
 refine (H2.out w1 _ X s0 HTE.out HE.out HOE.out HSS.out (by rw [HSL.out.1]; decide) (by rw [HSL.out.2]; decide) (by rw [HSN.out]; exact HER.out)).mono ?_
 rintro r w3 ⟨s3, bA, bc, rfl, k1, k2, k3, k4, k5⟩
 have HK1 := h_ k1
 have HK3 := h_ (HB.out.b.trans (k3.mono HA.out.b.size))
 have htt : s0.n.t = n.t := congrArg NodeD.t HSN.out
 rw [htt] at k5
 rw [htt]
 have HK5 := h_ k5
 have HUU := h_ (show s3.n.U.map OpV.ps = n.U.map OpV.ps from (congrArg (fun d : EdD => d.n.U) k2).trans ((jz_ ps s0.d).trans (congrArg NodeD.U HSN.out)))
 rw [HSD.out] at k2
 have HRB := h_ ((k3.block R (HA.out.rz)).trans HB.out.r)
 have HK2 := h_ k2
 clear k1 k2 k3 k4 k5 htt
 generalize invOut n.t ps = iv at *
 go_wp2_with fail
 refine (bw_ _ X).mono ?_
 rintro r w4 ⟨rfl, rfl⟩
 obtain ⟨_, _, _, _, _, _, x6, _, _, _, xz⟩ := j_ HK1.out.busy.blk
 have hUL : s3.n.U.length ≤ 12 := by
  have h1 := congrArg List.length HUU.out
  rw [List.length_map, List.length_map] at h1
  have h2 := HU12.out
  omega
 have HX := h_ (ca_ HK1.out.urow (bAlloc (Below.refl _ _) (.cells #[.slice bA iv.length bc] 30)))
 have hWAz : WA.heap.size ≤ w3.heap.size := HK1.out.base_le
 go_wp2_with (refine ba_ rfl ?_)
 refine ⟨?_⟩
 refine f_ _ rfl _ _ 25 rfl WA.heap.size 30 j0 (.slice none 0 0) 1 24 Tryz.underlying25 hj0 hy0 hy1 hy2 rfl (by decide) _ _ _ rfl HX.out (fun _ => True) _ _ _ _ rfl (dn_ rfl (by simp)) ?c1 ?c2 ?c3 ?c4 ?_
 case c1 => intro u hu; simp at hu; subst hu; rfl
 case c2 => unfold maxLen; omega
 case c3 => omega
 case c4 => simp; omega
 intro A' c' w6 hown' hgrow hat
 have hbq : Below w3.heap.size w3 (w3.alloc (.cells #[.slice bA iv.length bc] 30)) := bA_
 obtain ⟨WQ, hWQ⟩ : ∃ WQ, WQ = w3.alloc (.cells #[.slice bA iv.length bc] 30) := ⟨_, rfl⟩
 rw [← hWQ] at hgrow hat hbq
 have hneX : (Value.slice s3.n.uA s3.n.U.length s3.n.uc).ownBlock ≠ some X := l_ HK1.out.urow HK1.out.busy.blk (by decide)
 have hX6 := (hgrow.block X (by have := hbq.size; omega) (fun e => hneX e.symm)).trans ((hbq.block X xz).trans HK1.out.busy.blk)
 obtain ⟨u0, hu0⟩ : ∃ U0 : List OpV, U0 = s3.n.U ++ [⟨bA, bc, iv⟩] := ⟨_, rfl⟩
 have hul : u0.length = s3.n.U.length + 1 := by rw [hu0]; simp
 have HW7 := h_ (show EdAt 71 (w6.setCell ⟨X, 6, none⟩ (.slice A' (s3.n.U.length + 1) c')) WA.heap.size X ⟨s3.n.withU A' c' u0, s3.A, s3.c, s3.L, s3.RA, s3.rc, s3.RL⟩ from by
  refine EditAt.undoRow cm_ HK1.out hbq (W2 := WQ) (w3 := w6) (fun o ho => ?_) hgrow (by rw [hul, hu0, List.map_append]; exact hown') (by rw [hul]; exact hat) (by simp [World.setCell]) (fun b hb => bH_ hb) (by
   have := e_ 6 (.slice A' (s3.n.U.length + 1) c') hX6
   rw [← hul] at this ⊢
   exact this)
  rw [hu0] at ho
  rcases List.mem_append.1 ho with ho | ho
  · exact .inl ho
  · obtain rfl : o = ⟨bA, bc, iv⟩ := by simpa using ho
    refine .inr ((HK5.out.moved fun b hb => ?_))
    have hq := (Stay.of_below (X := X) (s := s3) hbq) b hb.2
    have hz := HB.out.b.size
    exact ⟨⟨⟨by have := hb.1; have := HE.out.base_le; omega, hq.1.1.2⟩, hq.1.2⟩, hq.2⟩)
 have hRW := HA.out.rz
 have HR6 := h_ ((hgrow.block R (by have := hbq.size; omega) (fun e => by have := (HK1.out.urow.lt R e.symm).1; omega)).trans ((hbq.block R (by omega)).trans HRB.out))
 have HB6 := h_ (show Below w.heap.size w w6 from Below.grown (bThen HK3.out hbq) hgrow (by have := (bThen HK3.out hbq).size; omega) (fun k e => by have := (HK1.out.urow.lt k e).1; have := HA.out.b.size; omega))
 obtain ⟨g, hg⟩ : ∃ g, A' = some ⟨g, 0, none⟩ := by
  obtain ⟨g, cap, hv, _, _⟩ := hown'.form (by omega)
  exact ⟨g, by injection hv⟩
 have hcap := gp_ hown'
 have HCA := h_ hcap
 have HGA := h_ hg
 have HUL := h_ hul
 have HU0 := h_ hu0
 have hRX' : ¬ R = X := by omega
 have hXR : ¬ X = R := by omega
 obtain ⟨x0, x1, x2, x3, x4, x5, y6, x7, x8, x9, yz⟩ := j_ hX6
 have f6 := tenF hX6 6
 obtain ⟨r0, r1, r2, r3, r4, r5, r6, r7, r8, r9, rz⟩ := j_ HR6.out
 have F0 := tenF HR6.out 0
 have F1 := tenF HR6.out 1
 have F2 := tenF HR6.out 2
 have F3 := tenF HR6.out 3
 have F4 := tenF HR6.out 4
 have F5 := tenF HR6.out 5
 have F6 := tenF HR6.out 6
 have F7 := tenF HR6.out 7
 have F8 := tenF HR6.out 8
 have F9 := tenF HR6.out 9
 subst hg
 clear hown' hgrow hat hbq hWQ hneX hX6 hul hu0 x6 xz
 have hwX : w.heap.size ≤ X := by have := HA.out.hr; omega
 by_cases h12 : 12 < s3.n.U.length + 1
 · have b12 : decide (12 < (s3.n.U.length : Int) + 1) = true := by simp; omega
   have H12 := h_ h12
   have hc0 : ¬ c' - 1 = 0 := by have := HCA.out.1; omega
   have hc1 : ¬ c' = 1 := by have := HCA.out.1; omega
   have hc2 : ¬ c' ≤ 1 := by have := HCA.out.1; omega
   clear h12
   go_wp2_with fail
   have hq := turnFinU (w := w) (wr := ((w6.setCell ⟨X, 6, none⟩ (.slice (some ⟨g, 0, none⟩) (s3.n.U.length + 1) c')).setCell ⟨X, 6, none⟩ (.slice (some ⟨g, 1, none⟩) s3.n.U.length (c' - 1)))) (R := R) (show (u0.drop 1).length = s3.n.U.length by rw [List.length_drop, HUL.out]; first | done | rfl) (show Held ((w6.setCell ⟨X, 6, none⟩ (.slice (some ⟨g, 0, none⟩) (s3.n.U.length + 1) c')).setCell ⟨X, 6, none⟩ (.slice (some ⟨g, 1, none⟩) s3.n.U.length (c' - 1))) WA.heap.size X (s3.n.withU (some ⟨g, 1, none⟩) (c' - 1) (u0.drop 1)) s3.A s3.c s3.L s3.RA s3.rc s3.RL from ((HW7.out.held cm_).only (Only.set _ _ _)).dropU rfl (c' - 1) (by show 0 < u0.length; rw [HUL.out]; omega)) ((bH_ hRX').trans ((bH_ hRX').trans HR6.out)) hRW (by have := HA.out.hr; omega) (bSet (bSet HB6.out (p := ⟨X, 6, none⟩) hwX _) (p := ⟨X, 6, none⟩) hwX _)
   refine fr_ ?_
   intro W9 hW9
   have hW9 := hW9.trans (show _ = (((((((((((((w6.setCell ⟨X, 6, none⟩ (.slice (some ⟨g, 0, none⟩) (s3.n.U.length + 1) c')).setCell ⟨X, 6, none⟩ (.slice (some ⟨g, 1, none⟩) s3.n.U.length (c' - 1))).setCell ⟨R, 0, none⟩ (.int .i64 s3.n.me)).setCell ⟨R, 1, none⟩ (.int .i64 s3.n.ep)).setCell ⟨R, 2, none⟩ (.int .i64 s3.n.up)).setCell ⟨R, 3, none⟩ (.bool s3.n.rd)).setCell ⟨R, 4, none⟩ (.string s3.n.t)).setCell ⟨R, 5, none⟩ (.slice s3.n.sA s3.n.S.length s3.n.sc)).setCell ⟨R, 6, none⟩ (.slice (some ⟨g, 1, none⟩) s3.n.U.length (c' - 1))).setCell ⟨R, 7, none⟩ (.slice s3.n.mA s3.n.M.length s3.n.mc)).setCell ⟨R, 8, none⟩ (.slice s3.A s3.L.length s3.c)).setCell ⟨R, 9, none⟩ (.slice s3.RA s3.RL.length s3.rc))) by first | rfl | simp | (congr 1; done))
   rw [← hW9] at hq
   clear hW9
   refine m_ (fun H => H.heap[R]? = some (.cells #[.int .i64 s3.n.me, .int .i64 s3.n.ep, .int .i64 s3.n.up, .bool s3.n.rd, .string s3.n.t, .slice s3.n.sA s3.n.S.length s3.n.sc, .slice (some ⟨g, 1, none⟩) s3.n.U.length (c' - 1), .slice s3.n.mA s3.n.M.length s3.n.mc, .slice s3.A s3.L.length s3.c, .slice s3.RA s3.RL.length s3.rc] 35 (0, 0)) ∧ NodeV.InS (fun b => w.heap.size ≤ b ∧ b < H.heap.size) H (s3.n.withU (some ⟨g, 1, none⟩) (c' - 1) (u0.drop 1)) ∧ PostsOwn H w.heap.size s3.A s3.c s3.L ∧ RecsOwn H w.heap.size s3.RA s3.rc s3.RL ∧ Below w.heap.size w H) hq ?_
   clear hq r0 r1 r2 r3 r4 r5 r6 r7 r8 r9 rz F0 F1 F2 F3 F4 F5 F6 F7 F8 F9 x0 x1 x2 x3 x4 x5 y6 x7 x8 x9 yz f6
   rintro H ⟨j1, j2, j3, j4, j5⟩
   obtain ⟨r0, r1, r2, r3, r4, r5, r6, r7, r8, r9, rz⟩ := j_ j1
   refine bodyPost_ret (v := .tuple #[.agg #[.int .i64 s3.n.me, .int .i64 s3.n.ep, .int .i64 s3.n.up, .bool s3.n.rd, .string s3.n.t, .slice s3.n.sA s3.n.S.length s3.n.sc, .slice (some ⟨g, 1, none⟩) s3.n.U.length (c' - 1), .slice s3.n.mA s3.n.M.length s3.n.mc, .slice s3.A s3.L.length s3.c, .slice s3.RA s3.RL.length s3.rc], .int .i64 0]) (by simp [results, Tryz.results7, go_sem, r0, r1, r2, r3, r4, r5, r6, r7, r8, r9]) rfl ?_
   refine ⟨⟨(s3.n.withU (some ⟨g, 1, none⟩) (c' - 1) (u0.drop 1)), s3.A, s3.c, s3.L, s3.RA, s3.rc, s3.RL⟩, ?_, ?_, j2, j3, j4, j5⟩
   · simp only [turnCells]
     rw [show (s3.n.withU (some ⟨g, 1, none⟩) (c' - 1) (u0.drop 1)).U.length = s3.n.U.length from by show (u0.drop 1).length = _; rw [List.length_drop, HUL.out]; rfl]
     rfl
   · rw [← HK2.out, HU0.out]
     exact ob_ s3 _ _ ⟨bA, bc, iv⟩ H12.out
 · have b12 : decide (12 < (s3.n.U.length : Int) + 1) = false := by simp; omega
   have H12 := h_ h12
   clear h12
   go_wp2_with fail
   have hq := turnFinU (w := w) (wr := (w6.setCell ⟨X, 6, none⟩ (.slice (some ⟨g, 0, none⟩) (s3.n.U.length + 1) c'))) (R := R) HUL.out (show Held (w6.setCell ⟨X, 6, none⟩ (.slice (some ⟨g, 0, none⟩) (s3.n.U.length + 1) c')) WA.heap.size X (s3.n.withU (some ⟨g, 0, none⟩) c' u0) s3.A s3.c s3.L s3.RA s3.rc s3.RL from HW7.out.held cm_) ((bH_ hRX').trans HR6.out) hRW (by have := HA.out.hr; omega) (bSet HB6.out (p := ⟨X, 6, none⟩) hwX _)
   refine fr_ ?_
   intro W9 hW9
   have hW9 := hW9.trans (show _ = ((((((((((((w6.setCell ⟨X, 6, none⟩ (.slice (some ⟨g, 0, none⟩) (s3.n.U.length + 1) c')).setCell ⟨R, 0, none⟩ (.int .i64 s3.n.me)).setCell ⟨R, 1, none⟩ (.int .i64 s3.n.ep)).setCell ⟨R, 2, none⟩ (.int .i64 s3.n.up)).setCell ⟨R, 3, none⟩ (.bool s3.n.rd)).setCell ⟨R, 4, none⟩ (.string s3.n.t)).setCell ⟨R, 5, none⟩ (.slice s3.n.sA s3.n.S.length s3.n.sc)).setCell ⟨R, 6, none⟩ (.slice (some ⟨g, 0, none⟩) (s3.n.U.length + 1) c')).setCell ⟨R, 7, none⟩ (.slice s3.n.mA s3.n.M.length s3.n.mc)).setCell ⟨R, 8, none⟩ (.slice s3.A s3.L.length s3.c)).setCell ⟨R, 9, none⟩ (.slice s3.RA s3.RL.length s3.rc))) by first | rfl | simp | (congr 1; done))
   rw [← hW9] at hq
   clear hW9
   refine m_ (fun H => H.heap[R]? = some (.cells #[.int .i64 s3.n.me, .int .i64 s3.n.ep, .int .i64 s3.n.up, .bool s3.n.rd, .string s3.n.t, .slice s3.n.sA s3.n.S.length s3.n.sc, .slice (some ⟨g, 0, none⟩) (s3.n.U.length + 1) c', .slice s3.n.mA s3.n.M.length s3.n.mc, .slice s3.A s3.L.length s3.c, .slice s3.RA s3.RL.length s3.rc] 35 (0, 0)) ∧ NodeV.InS (fun b => w.heap.size ≤ b ∧ b < H.heap.size) H (s3.n.withU (some ⟨g, 0, none⟩) c' u0) ∧ PostsOwn H w.heap.size s3.A s3.c s3.L ∧ RecsOwn H w.heap.size s3.RA s3.rc s3.RL ∧ Below w.heap.size w H) hq ?_
   clear hq r0 r1 r2 r3 r4 r5 r6 r7 r8 r9 rz F0 F1 F2 F3 F4 F5 F6 F7 F8 F9 x0 x1 x2 x3 x4 x5 y6 x7 x8 x9 yz f6
   rintro H ⟨j1, j2, j3, j4, j5⟩
   obtain ⟨r0, r1, r2, r3, r4, r5, r6, r7, r8, r9, rz⟩ := j_ j1
   refine bodyPost_ret (v := .tuple #[.agg #[.int .i64 s3.n.me, .int .i64 s3.n.ep, .int .i64 s3.n.up, .bool s3.n.rd, .string s3.n.t, .slice s3.n.sA s3.n.S.length s3.n.sc, .slice (some ⟨g, 0, none⟩) (s3.n.U.length + 1) c', .slice s3.n.mA s3.n.M.length s3.n.mc, .slice s3.A s3.L.length s3.c, .slice s3.RA s3.RL.length s3.rc], .int .i64 0]) (by simp [results, Tryz.results7, go_sem, r0, r1, r2, r3, r4, r5, r6, r7, r8, r9]) rfl ?_
   refine ⟨⟨(s3.n.withU (some ⟨g, 0, none⟩) c' u0), s3.A, s3.c, s3.L, s3.RA, s3.rc, s3.RL⟩, ?_, ?_, j2, j3, j4, j5⟩
   · simp only [turnCells]
     rw [show (s3.n.withU (some ⟨g, 0, none⟩) c' u0).U.length = (s3.n.U.length + 1) from HUL.out]
     rfl
   · rw [← HK2.out, HU0.out]
     exact nx_ s3 _ _ ⟨bA, bc, iv⟩ H12.out
theorem oq_ (w : World) (T : Option Addr) (N Nc : Nat) (zs : List Int) (n : NodeV) (hT : Tabs w) (hi : n.In w) (hm : n.Small) (hz : Sl (· < w.heap.size) w 1 T N (zs.map (Value.int .i64))) (hN : N ≤ 9223372036854775807) (pA : Option Addr) (pc : Nat) (ps : List PartD) (er : Int) (h0 : nodeFault zs n = er) (hne : (er == 0) = false) : Calls Tryz.prog 9 #[.slice T N Nc, n.val, .slice pA ps.length pc] w (RetTurnR w zeroD er) := by
 have H1 := h_ (fun W hT (hi : n.In W) hz => gh_ W T N Nc zs n hT hi hm hz hN)
 rw [h0] at H1
 have HT := h_ hT
 have HZ := h_ hz
 have HI := h_ hi
 clear hT hz hi hm h0
 have HA := h_ (TickAt.new w n.cv)
 obtain ⟨WA, hWA⟩ : ∃ WA, WA = ((w.alloc (.cells n.cv 28)).alloc (.cells z_ 35)) := ⟨_, rfl⟩
 rw [← hWA] at HA
 have HW := h_ hWA.symm
 obtain ⟨R, hR⟩ : ∃ R, R = w.heap.size + 1 := ⟨_, rfl⟩
 rw [← hR] at HA
 have HRE := h_ hR.symm
 clear hWA hR
 go_enter Tryz.func9, Tryz.ntmps9
 go_wp2_with fail
 rw [HW.out, HRE.out]
 refine (H1.out _ (HT.out.later HA.out.b) (HI.out.later HA.out.b) (Sl.later HZ.out HA.out.b)).mono ?_
 rintro r w1 ⟨rfl, hb1⟩
 have HRB := h_ (HA.out.later hb1).r
 have HBB := h_ (HA.out.later hb1).b
 clear hb1
 have hne' : (er != 0) = true := by simp [bne, hne]
 obtain ⟨r0, r1, r2, r3, r4, r5, r6, r7, r8, r9, rz⟩ := j_ HRB.out
 have F0 := tenF HRB.out 0
 have F1 := tenF HRB.out 1
 have F2 := tenF HRB.out 2
 have F3 := tenF HRB.out 3
 have F4 := tenF HRB.out 4
 have F5 := tenF HRB.out 5
 have F6 := tenF HRB.out 6
 have F7 := tenF HRB.out 7
 have F8 := tenF HRB.out 8
 have F9 := tenF HRB.out 9
 go_wp2_with fail
 refine m_ (fun H => H.heap[R]? = some (.cells z_ 35 (0, 0)) ∧ Below w.heap.size w H) ⟨ej_ HRB.out _ _ _ _ _ _ _ _ _ _, ?_⟩ ?_
 · have hwR : w.heap.size ≤ R := by have := HA.out.hr; omega
   repeat (refine bSet ?_ (by exact hwR) _)
   exact HBB.out
 clear r0 r1 r2 r3 r4 r5 r6 r7 r8 r9 rz F0 F1 F2 F3 F4 F5 F6 F7 F8 F9
 rintro H ⟨j1, j3⟩
 obtain ⟨r0, r1, r2, r3, r4, r5, r6, r7, r8, r9, rz⟩ := j_ j1
 refine bodyPost_ret (v := .tuple #[.agg #[.int .i64 0, .int .i64 0, .int .i64 0, .bool false, .string ⟨#[]⟩, .slice none 0 0, .slice none 0 0, .slice none 0 0, .slice none 0 0, .slice none 0 0], .int .i64 er]) (by simp [results, Tryz.results9, go_sem, r0, r1, r2, r3, r4, r5, r6, r7, r8, r9]) rfl ?_
 exact ⟨⟨zeroN, none, 0, [], none, 0, []⟩, rfl, rfl, fs_ _ _, RowOwn.nil _ _, RowOwn.nil _ _, j3⟩
theorem ty_ (w : World) (T : Option Addr) (N Nc : Nat) (zs : List Int) (n : NodeV) (hT : Tabs w) (hi : n.In w) (hm : n.Small) (hz : Sl (· < w.heap.size) w 1 T N (zs.map (Value.int .i64))) (hN : N ≤ 9223372036854775807) (pA : Option Addr) (pc : Nat) (ps : List PartD) (hop : OpIn (· < w.heap.size) w pA ps) (hpl : ps.length ≤ 1048576) (hpt : ∀ p ∈ ps, p.text.size ≤ 1048576) (h0 : nodeFault zs n = 0) (er : Int) (hE : editErr n.d ps = er) (hne : er ≠ 0) : Calls Tryz.prog 9 #[.slice T N Nc, n.val, .slice pA ps.length pc] w (RetTurnR w zeroD er) := by
 have HT := h_ hT
 have HZ := h_ hz
 have HI := h_ hi
 have HM := h_ hm
 have HOP := h_ hop
 have H1 := h_ (fun W hT (hi : n.In W) hz => gh_ W T N Nc zs n hT hi hm hz hN)
 rw [h0] at H1
 have HCP := h_ (fun W (hi : n.In W) => gu_ W n hi hm)
 have H2 := h_ (fun W base X s hT h hop hS hE => vf_ W base X s pA pc ps hT h hop hpl hpt hS er hE hne)
 have HER := h_ hE
 have hne' : (er != 0) = true := by simpa using hne
 clear hT hz hi hm h0 hop hpl hpt hE hne
 have HA := h_ (TickAt.new w n.cv)
 obtain ⟨WA, hWA⟩ : ∃ WA, WA = ((w.alloc (.cells n.cv 28)).alloc (.cells z_ 35)) := ⟨_, rfl⟩
 rw [← hWA] at HA
 have HW := h_ hWA.symm
 obtain ⟨R, hR⟩ : ∃ R, R = w.heap.size + 1 := ⟨_, rfl⟩
 rw [← hR] at HA
 have HRE := h_ hR.symm
 clear hWA hR
 go_enter Tryz.func9, Tryz.ntmps9
 go_wp2_with fail
 rw [HW.out, HRE.out]
 refine (H1.out _ (HT.out.later HA.out.b) (HI.out.later HA.out.b) (Sl.later HZ.out HA.out.b)).mono ?_
 rintro r w0 ⟨rfl, hb0⟩
 have HB0 := h_ (HA.out.later hb0)
 obtain ⟨n0, n1, n2, n3, n4, n5, n6, n7, nz⟩ := r_ HB0.out.nd
 have hz0 := hb0.size
 clear hb0
 go_wp2_with fail
 refine (HCP.out _ (HI.out.later HB0.out.b)).mono ?_
 rintro r w2 ⟨n', rfl, hd, hfree, hb2⟩
 have HC0 := h_ (HB0.out.later hb2)
 clear n0 n1 n2 n3 n4 n5 n6 n7 nz
 go_wp2_with fail
 obtain ⟨w1, hw1⟩ : ∃ w1, w1 = w2.alloc (.cells #[.int .i64 n'.me, .int .i64 n'.ep, .int .i64 n'.up, .bool n'.rd, .string n'.t, .slice n'.sA n'.S.length n'.sc, .slice n'.uA n'.U.length n'.uc, .slice n'.mA n'.M.length n'.mc, .slice none 0 0, .slice none 0 0] 35) := ⟨_, rfl⟩
 obtain ⟨X, hX9⟩ : ∃ X, X = w2.heap.size := ⟨_, rfl⟩
 have hb1 : Below w2.heap.size w2 w1 := by rw [hw1]; exact bA_
 have hx : w1.heap[X]? = some (.cells (turnCells n' (.slice none 0 0) (.slice none 0 0)) 35 (0, 0)) := by rw [hw1, hX9]; exact World.alloc_heap_new _ _
 have hX : WA.heap.size ≤ X := by have h2 := hb2.size; omega
 have HB := h_ (HC0.out.later hb1)
 rw [← hw1, ← hX9]
 obtain ⟨s0, hs0⟩ : ∃ s0 : EdV, s0 = ⟨n', none, 0, [], none, 0, []⟩ := ⟨_, rfl⟩
 have HE := h_ (show EdAt 35 w1 WA.heap.size X s0 by rw [hs0]; exact EditAt.new (hfree.low hz0) hX9 hX hb1 hx)
 have HSD := h_ (show s0.d = ⟨n.d, [], []⟩ by rw [hs0]; exact EdD.ext' hd rfl rfl)
 have HSN := h_ (show s0.n.d = n.d by rw [hs0]; exact hd)
 have HSS := h_ (show s0.n.Small by rw [hs0]; exact NodeV.Small.of_d hd HM.out)
 have HSL := h_ (show s0.L.length = 0 ∧ s0.RL.length = 0 by rw [hs0]; exact ⟨rfl, rfl⟩)
 have HTE := h_ (show ∀ W, Below WA.heap.size w1 W → Tabs W from fun W hb => HT.out.later (HB.out.b.trans (hb.mono HA.out.b.size)))
 have HOE := h_ (show OpIn (Off w1 X s0) w1 pA ps from HOP.out.moved fun b hb => ⟨HE.out.off (by have := HA.out.b.size; omega), HB.out.b.block b hb⟩)
 have hRX : R < X := by have := HA.out.rz; omega
 clear hd hx hfree hb2 hb1 hs0 hw1 hX9
 refine (H2.out w1 _ X s0 HTE.out HE.out HOE.out HSS.out (by rw [HSN.out]; exact HER.out)).mono ?_
 rintro r w3 ⟨rfl, hb3⟩
 have HRB := h_ (HB.out.later hb3).r
 have HBB := h_ (HB.out.later hb3).b
 clear hb3
 obtain ⟨r0, r1, r2, r3, r4, r5, r6, r7, r8, r9, rz⟩ := j_ HRB.out
 have F0 := tenF HRB.out 0
 have F1 := tenF HRB.out 1
 have F2 := tenF HRB.out 2
 have F3 := tenF HRB.out 3
 have F4 := tenF HRB.out 4
 have F5 := tenF HRB.out 5
 have F6 := tenF HRB.out 6
 have F7 := tenF HRB.out 7
 have F8 := tenF HRB.out 8
 have F9 := tenF HRB.out 9
 go_wp2_with fail
 refine m_ (fun H => H.heap[R]? = some (.cells z_ 35 (0, 0)) ∧ Below w.heap.size w H) ⟨ej_ HRB.out _ _ _ _ _ _ _ _ _ _, ?_⟩ ?_
 · have hwR : w.heap.size ≤ R := by have := HA.out.hr; omega
   repeat (refine bSet ?_ (by exact hwR) _)
   exact HBB.out
 clear r0 r1 r2 r3 r4 r5 r6 r7 r8 r9 rz F0 F1 F2 F3 F4 F5 F6 F7 F8 F9
 rintro H ⟨j1, j3⟩
 obtain ⟨r0, r1, r2, r3, r4, r5, r6, r7, r8, r9, rz⟩ := j_ j1
 refine bodyPost_ret (v := .tuple #[.agg #[.int .i64 0, .int .i64 0, .int .i64 0, .bool false, .string ⟨#[]⟩, .slice none 0 0, .slice none 0 0, .slice none 0 0, .slice none 0 0, .slice none 0 0], .int .i64 er]) (by simp [results, Tryz.results9, go_sem, r0, r1, r2, r3, r4, r5, r6, r7, r8, r9]) rfl ?_
 exact ⟨⟨zeroN, none, 0, [], none, 0, []⟩, rfl, rfl, fs_ _ _, RowOwn.nil _ _, RowOwn.nil _ _, j3⟩
theorem tb_ (w : World) (T : Option Addr) (N Nc : Nat) (zs : List Int) (n : NodeV) (hT : Tabs w) (hi : n.In w) (hm : n.Small) (hz : Sl (· < w.heap.size) w 1 T N (zs.map (Value.int .i64))) (hN : N ≤ 9223372036854775807) (pA : Option Addr) (pc : Nat) (ps : List PartD) (hop : OpIn (· < w.heap.size) w pA ps) (hpl : ps.length ≤ 1048576) (hpt : ∀ p ∈ ps, p.text.size ≤ 1048576) (h0 : nodeFault zs n = 0) (hE : editErr n.d ps = 0) : Calls Tryz.prog 9 #[.slice T N Nc, n.val, .slice pA ps.length pc] w (RetTurnR w (pushD (editDD ps ⟨n.d, [], []⟩) (invOut n.t ps)) 0) := by
 have HT := h_ hT
 have HZ := h_ hz
 have HI := h_ hi
 have HM := h_ hm
 have HOP := h_ hop
 have H1 := h_ (fun W hT (hi : n.In W) hz => gh_ W T N Nc zs n hT hi hm hz hN)
 rw [h0] at H1
 have HCP := h_ (fun W (hi : n.In W) => gu_ W n hi hm)
 have H2 := h_ (fun W base X s hT h hop hS hL hR hE => tr_ W base X s pA pc ps hT h hop hpl hpt hS hL hR hE)
 have HER := h_ hE
 have HU12 := h_ (show n.U.length ≤ 12 from (hh_ h0).2.1.2.1)
 obtain ⟨j0, hj0, hy0, hy1, hy2⟩ := info_parts infoOp
 clear hT hz hi hm h0 hop hpl hpt hE
 have HA := h_ (TickAt.new w n.cv)
 obtain ⟨WA, hWA⟩ : ∃ WA, WA = ((w.alloc (.cells n.cv 28)).alloc (.cells z_ 35)) := ⟨_, rfl⟩
 rw [← hWA] at HA
 have HW := h_ hWA.symm
 obtain ⟨R, hR⟩ : ∃ R, R = w.heap.size + 1 := ⟨_, rfl⟩
 rw [← hR] at HA
 have HRE := h_ hR.symm
 clear hWA hR
 go_enter Tryz.func9, Tryz.ntmps9
 go_wp2_with fail
 rw [HW.out, HRE.out]
 refine (H1.out _ (HT.out.later HA.out.b) (HI.out.later HA.out.b) (Sl.later HZ.out HA.out.b)).mono ?_
 rintro r w0 ⟨rfl, hb0⟩
 have HB0 := h_ (HA.out.later hb0)
 obtain ⟨n0, n1, n2, n3, n4, n5, n6, n7, nz⟩ := r_ HB0.out.nd
 have hz0 := hb0.size
 clear hb0
 go_wp2_with fail
 refine (HCP.out _ (HI.out.later HB0.out.b)).mono ?_
 rintro r w2 ⟨n', rfl, hd, hfree, hb2⟩
 have HC0 := h_ (HB0.out.later hb2)
 clear n0 n1 n2 n3 n4 n5 n6 n7 nz
 go_wp2_with fail
 obtain ⟨w1, hw1⟩ : ∃ w1, w1 = w2.alloc (.cells #[.int .i64 n'.me, .int .i64 n'.ep, .int .i64 n'.up, .bool n'.rd, .string n'.t, .slice n'.sA n'.S.length n'.sc, .slice n'.uA n'.U.length n'.uc, .slice n'.mA n'.M.length n'.mc, .slice none 0 0, .slice none 0 0] 35) := ⟨_, rfl⟩
 obtain ⟨X, hX9⟩ : ∃ X, X = w2.heap.size := ⟨_, rfl⟩
 have hb1 : Below w2.heap.size w2 w1 := by rw [hw1]; exact bA_
 have hx : w1.heap[X]? = some (.cells (turnCells n' (.slice none 0 0) (.slice none 0 0)) 35 (0, 0)) := by rw [hw1, hX9]; exact World.alloc_heap_new _ _
 have hX : WA.heap.size ≤ X := by have h2 := hb2.size; omega
 have HB := h_ (HC0.out.later hb1)
 rw [← hw1, ← hX9]
 obtain ⟨s0, hs0⟩ : ∃ s0 : EdV, s0 = ⟨n', none, 0, [], none, 0, []⟩ := ⟨_, rfl⟩
 have HE := h_ (show EdAt 35 w1 WA.heap.size X s0 by rw [hs0]; exact EditAt.new (hfree.low hz0) hX9 hX hb1 hx)
 have HSD := h_ (show s0.d = ⟨n.d, [], []⟩ by rw [hs0]; exact EdD.ext' hd rfl rfl)
 have HSN := h_ (show s0.n.d = n.d by rw [hs0]; exact hd)
 have HSS := h_ (show s0.n.Small by rw [hs0]; exact NodeV.Small.of_d hd HM.out)
 have HSL := h_ (show s0.L.length = 0 ∧ s0.RL.length = 0 by rw [hs0]; exact ⟨rfl, rfl⟩)
 have HTE := h_ (show ∀ W, Below WA.heap.size w1 W → Tabs W from fun W hb => HT.out.later (HB.out.b.trans (hb.mono HA.out.b.size)))
 have HOE := h_ (show OpIn (Off w1 X s0) w1 pA ps from HOP.out.moved fun b hb => ⟨HE.out.off (by have := HA.out.b.size; omega), HB.out.b.block b hb⟩)
 have hRX : R < X := by have := HA.out.rz; omega
 clear hd hx hfree hb2 hb1 hs0 hw1 hX9
 refine (H2.out w1 _ X s0 HTE.out HE.out HOE.out HSS.out (by rw [HSL.out.1]; decide) (by rw [HSL.out.2]; decide) (by rw [HSN.out]; exact HER.out)).mono ?_
 rintro r w3 ⟨s3, bA, bc, rfl, k1, k2, k3, k4, k5⟩
 have HK1 := h_ k1
 have HK3 := h_ (HB.out.b.trans (k3.mono HA.out.b.size))
 have htt : s0.n.t = n.t := congrArg NodeD.t HSN.out
 rw [htt] at k5
 rw [htt]
 have HK5 := h_ k5
 have HUU := h_ (show s3.n.U.map OpV.ps = n.U.map OpV.ps from (congrArg (fun d : EdD => d.n.U) k2).trans ((jz_ ps s0.d).trans (congrArg NodeD.U HSN.out)))
 rw [HSD.out] at k2
 have HRB := h_ ((k3.block R (HA.out.rz)).trans HB.out.r)
 have HK2 := h_ k2
 clear k1 k2 k3 k4 k5 htt
 have HIL := h_ (lk_ n.t ps)
 generalize invOut n.t ps = iv at *
 obtain ⟨_, _, _, _, _, _, x6, _, _, _, xz⟩ := j_ HK1.out.busy.blk
 have hUL : s3.n.U.length ≤ 12 := by
  have h1 := congrArg List.length HUU.out
  rw [List.length_map, List.length_map] at h1
  have h2 := HU12.out
  omega
 have HX := h_ (ca_ HK1.out.urow (bAlloc (Below.refl _ _) (.cells #[.slice bA iv.length bc] 30)))
 have hWAz : WA.heap.size ≤ w3.heap.size := HK1.out.base_le
 go_wp2_with (refine ba_ rfl ?_)
 refine ⟨?_⟩
 refine f_ _ rfl _ _ 25 rfl WA.heap.size 30 j0 (.slice none 0 0) 1 24 Tryz.underlying25 hj0 hy0 hy1 hy2 rfl (by decide) _ _ _ rfl HX.out (fun _ => True) _ _ _ _ rfl (dn_ rfl (by simp)) ?c1 ?c2 ?c3 ?c4 ?_
 case c1 => intro u hu; simp at hu; subst hu; rfl
 case c2 => unfold maxLen; omega
 case c3 => omega
 case c4 => simp; omega
 intro A' c' w6 hown' hgrow hat
 have hbq : Below w3.heap.size w3 (w3.alloc (.cells #[.slice bA iv.length bc] 30)) := bA_
 obtain ⟨WQ, hWQ⟩ : ∃ WQ, WQ = w3.alloc (.cells #[.slice bA iv.length bc] 30) := ⟨_, rfl⟩
 rw [← hWQ] at hgrow hat hbq
 have hneX : (Value.slice s3.n.uA s3.n.U.length s3.n.uc).ownBlock ≠ some X := l_ HK1.out.urow HK1.out.busy.blk (by decide)
 have hX6 := (hgrow.block X (by have := hbq.size; omega) (fun e => hneX e.symm)).trans ((hbq.block X xz).trans HK1.out.busy.blk)
 obtain ⟨u0, hu0⟩ : ∃ U0 : List OpV, U0 = s3.n.U ++ [⟨bA, bc, iv⟩] := ⟨_, rfl⟩
 have hul : u0.length = s3.n.U.length + 1 := by rw [hu0]; simp
 have HW7 := h_ (show EdAt 35 (w6.setCell ⟨X, 6, none⟩ (.slice A' (s3.n.U.length + 1) c')) WA.heap.size X ⟨s3.n.withU A' c' u0, s3.A, s3.c, s3.L, s3.RA, s3.rc, s3.RL⟩ from by
  refine EditAt.undoRow cd_ HK1.out hbq (W2 := WQ) (w3 := w6) (fun o ho => ?_) hgrow (by rw [hul, hu0, List.map_append]; exact hown') (by rw [hul]; exact hat) (by simp [World.setCell]) (fun b hb => bH_ hb) (by
   have := e_ 6 (.slice A' (s3.n.U.length + 1) c') hX6
   rw [← hul] at this ⊢
   exact this)
  rw [hu0] at ho
  rcases List.mem_append.1 ho with ho | ho
  · exact .inl ho
  · obtain rfl : o = ⟨bA, bc, iv⟩ := by simpa using ho
    refine .inr ((HK5.out.moved fun b hb => ?_))
    have hq := (Stay.of_below (X := X) (s := s3) hbq) b hb.2
    have hz := HB.out.b.size
    exact ⟨⟨⟨by have := hb.1; have := HE.out.base_le; omega, hq.1.1.2⟩, hq.1.2⟩, hq.2⟩)
 have hRW := HA.out.rz
 have HR6 := h_ ((hgrow.block R (by have := hbq.size; omega) (fun e => by have := (HK1.out.urow.lt R e.symm).1; omega)).trans ((hbq.block R (by omega)).trans HRB.out))
 have HB6 := h_ (show Below w.heap.size w w6 from Below.grown (bThen HK3.out hbq) hgrow (by have := (bThen HK3.out hbq).size; omega) (fun k e => by have := (HK1.out.urow.lt k e).1; have := HA.out.b.size; omega))
 obtain ⟨g, hg⟩ : ∃ g, A' = some ⟨g, 0, none⟩ := by
  obtain ⟨g, cap, hv, _, _⟩ := hown'.form (by omega)
  exact ⟨g, by injection hv⟩
 have hcap := gp_ hown'
 have HCA := h_ hcap
 have HGA := h_ hg
 have HUL := h_ hul
 have HU0 := h_ hu0
 have hRX' : ¬ R = X := by omega
 have hXR : ¬ X = R := by omega
 obtain ⟨x0, x1, x2, x3, x4, x5, y6, x7, x8, x9, yz⟩ := j_ hX6
 have f6 := tenF hX6 6
 obtain ⟨r0, r1, r2, r3, r4, r5, r6, r7, r8, r9, rz⟩ := j_ HR6.out
 have F0 := tenF HR6.out 0
 have F1 := tenF HR6.out 1
 have F2 := tenF HR6.out 2
 have F3 := tenF HR6.out 3
 have F4 := tenF HR6.out 4
 have F5 := tenF HR6.out 5
 have F6 := tenF HR6.out 6
 have F7 := tenF HR6.out 7
 have F8 := tenF HR6.out 8
 have F9 := tenF HR6.out 9
 subst hg
 clear hown' hgrow hat hbq hWQ hneX hX6 hul hu0 x6 xz
 have hwX : w.heap.size ≤ X := by have := HA.out.hr; omega
 by_cases h12 : 12 < s3.n.U.length + 1
 · have b12 : decide (12 < (s3.n.U.length : Int) + 1) = true := by simp; omega
   have H12 := h_ h12
   have hc0 : ¬ c' - 1 = 0 := by have := HCA.out.1; omega
   have hc1 : ¬ c' = 1 := by have := HCA.out.1; omega
   have hc2 : ¬ c' ≤ 1 := by have := HCA.out.1; omega
   clear h12
   go_wp2_with fail
   have hh := (HW7.out.held cd_).dropU rfl (c' - 1) (by show 0 < u0.length; rw [HUL.out]; omega)
   have hlen9 : (u0.drop 1).length = s3.n.U.length := by rw [List.length_drop, HUL.out]; first | done | rfl
   have hop9 : ∀ o ∈ u0.drop 1, o.ps.length ≤ 1048576 := fun o ho => by
    have ho := List.mem_of_mem_drop ho
    rw [HU0.out] at ho
    rcases List.mem_append.1 ho with ho | ho
    · exact (gz_ HUU.out HM.out.undo o ho).len
    · obtain rfl : o = ⟨bA, bc, iv⟩ := by simpa using ho
      exact HIL.out
   have h9 := nh_ _ (some ⟨g, 1, none⟩) (c' - 1) (u0.drop 1) ⟨hh.n.undo.row.moved fun b hb => ⟨hb.1.2, rfl⟩, fun o ho => (hh.n.undo.each o ho).moved fun b hb => ⟨hb.1.2, rfl⟩⟩ (by omega) hop9
   rw [hlen9] at h9
   refine h9.mono ?_
   clear hh h9 hlen9 hop9 x0 x1 x2 x3 x4 x5 y6 x7 x8 x9 yz f6 r0 r1 r2 r3 r4 r5 r6 r7 r8 r9 rz F0 F1 F2 F3 F4 F5 F6 F7 F8 F9
   rintro r w8 ⟨A9, c9, L9, rfl, hps9, ho9, hb9⟩
   have hXW : X < (w6.setCell ⟨X, 6, none⟩ (.slice (some ⟨g, 0, none⟩) (s3.n.U.length + 1) c')).heap.size := HW7.out.busy.lt
   have hX8 := (hb9.block X hXW).trans HW7.out.busy.blk
   have HW8 := h_ (show EdAt 35 (w8.setCell ⟨X, 6, none⟩ (.slice A9 L9.length c9)) WA.heap.size X ⟨(s3.n.withU A9 c9 L9), s3.A, s3.c, s3.L, s3.RA, s3.rc, s3.RL⟩ from EditAt.undoNew (n := s3.n.withU (some ⟨g, 0, none⟩) c' u0) cd_ HW7.out hb9 ho9 (by simp [World.setCell]) (fun b hb => bH_ hb) (e_ 6 (.slice A9 L9.length c9) hX8))
   have HR8 := h_ ((hb9.block R (by have := HW7.out.base_le; omega)).trans ((bH_ hRX').trans HR6.out))
   have HB8 := h_ (bThen (bSet HB6.out (p := ⟨X, 6, none⟩) hwX _) hb9)
   have HPS := h_ hps9
   obtain ⟨x0, x1, x2, x3, x4, x5, y6, x7, x8, x9, yz⟩ := j_ hX8
   have f6 := tenF hX8 6
   obtain ⟨r0, r1, r2, r3, r4, r5, r6, r7, r8, r9, rz⟩ := j_ HR8.out
   have F0 := tenF HR8.out 0
   have F1 := tenF HR8.out 1
   have F2 := tenF HR8.out 2
   have F3 := tenF HR8.out 3
   have F4 := tenF HR8.out 4
   have F5 := tenF HR8.out 5
   have F6 := tenF HR8.out 6
   have F7 := tenF HR8.out 7
   have F8 := tenF HR8.out 8
   have F9 := tenF HR8.out 9
   clear hX8 hps9 ho9 hb9 hXW
   go_wp2_with fail
   have hq := turnFinU (w := w) (wr := (w8.setCell ⟨X, 6, none⟩ (.slice A9 L9.length c9))) (R := R) (uL := L9.length) rfl (show Held (w8.setCell ⟨X, 6, none⟩ (.slice A9 L9.length c9)) WA.heap.size X (s3.n.withU A9 c9 L9) s3.A s3.c s3.L s3.RA s3.rc s3.RL from HW8.out.held cd_) ((bH_ hRX').trans HR8.out) hRW (by have := HA.out.hr; omega) (bSet HB8.out (p := ⟨X, 6, none⟩) hwX _)
   refine fr_ ?_
   intro W9 hW9
   have hW9 := hW9.trans (show _ = ((((((((((((w8.setCell ⟨X, 6, none⟩ (.slice A9 L9.length c9)).setCell ⟨R, 0, none⟩ (.int .i64 s3.n.me)).setCell ⟨R, 1, none⟩ (.int .i64 s3.n.ep)).setCell ⟨R, 2, none⟩ (.int .i64 s3.n.up)).setCell ⟨R, 3, none⟩ (.bool s3.n.rd)).setCell ⟨R, 4, none⟩ (.string s3.n.t)).setCell ⟨R, 5, none⟩ (.slice s3.n.sA s3.n.S.length s3.n.sc)).setCell ⟨R, 6, none⟩ (.slice A9 L9.length c9)).setCell ⟨R, 7, none⟩ (.slice s3.n.mA s3.n.M.length s3.n.mc)).setCell ⟨R, 8, none⟩ (.slice s3.A s3.L.length s3.c)).setCell ⟨R, 9, none⟩ (.slice s3.RA s3.RL.length s3.rc))) by first | rfl | simp | (congr 1; done))
   rw [← hW9] at hq
   clear hW9
   refine m_ (fun H => H.heap[R]? = some (.cells #[.int .i64 s3.n.me, .int .i64 s3.n.ep, .int .i64 s3.n.up, .bool s3.n.rd, .string s3.n.t, .slice s3.n.sA s3.n.S.length s3.n.sc, .slice A9 L9.length c9, .slice s3.n.mA s3.n.M.length s3.n.mc, .slice s3.A s3.L.length s3.c, .slice s3.RA s3.RL.length s3.rc] 35 (0, 0)) ∧ NodeV.InS (fun b => w.heap.size ≤ b ∧ b < H.heap.size) H (s3.n.withU A9 c9 L9) ∧ PostsOwn H w.heap.size s3.A s3.c s3.L ∧ RecsOwn H w.heap.size s3.RA s3.rc s3.RL ∧ Below w.heap.size w H) hq ?_
   clear hq r0 r1 r2 r3 r4 r5 r6 r7 r8 r9 rz F0 F1 F2 F3 F4 F5 F6 F7 F8 F9 x0 x1 x2 x3 x4 x5 y6 x7 x8 x9 yz f6
   rintro H ⟨j1, j2, j3, j4, j5⟩
   obtain ⟨r0, r1, r2, r3, r4, r5, r6, r7, r8, r9, rz⟩ := j_ j1
   refine bodyPost_ret (v := .tuple #[.agg #[.int .i64 s3.n.me, .int .i64 s3.n.ep, .int .i64 s3.n.up, .bool s3.n.rd, .string s3.n.t, .slice s3.n.sA s3.n.S.length s3.n.sc, .slice A9 L9.length c9, .slice s3.n.mA s3.n.M.length s3.n.mc, .slice s3.A s3.L.length s3.c, .slice s3.RA s3.RL.length s3.rc], .int .i64 0]) (by simp [results, Tryz.results9, go_sem, r0, r1, r2, r3, r4, r5, r6, r7, r8, r9]) rfl ?_
   refine ⟨⟨(s3.n.withU A9 c9 L9), s3.A, s3.c, s3.L, s3.RA, s3.rc, s3.RL⟩, rfl, ?_, j2, j3, j4, j5⟩
   rw [← HK2.out]
   exact tl_ s3 A9 c9 ⟨bA, bc, iv⟩ L9 (by rw [HPS.out, HU0.out]) H12.out
 · have b12 : decide (12 < (s3.n.U.length : Int) + 1) = false := by simp; omega
   have H12 := h_ h12
   clear h12
   go_wp2_with fail
   have hq := turnFinU (w := w) (wr := (w6.setCell ⟨X, 6, none⟩ (.slice (some ⟨g, 0, none⟩) (s3.n.U.length + 1) c'))) (R := R) HUL.out (show Held (w6.setCell ⟨X, 6, none⟩ (.slice (some ⟨g, 0, none⟩) (s3.n.U.length + 1) c')) WA.heap.size X (s3.n.withU (some ⟨g, 0, none⟩) c' u0) s3.A s3.c s3.L s3.RA s3.rc s3.RL from HW7.out.held cd_) ((bH_ hRX').trans HR6.out) hRW (by have := HA.out.hr; omega) (bSet HB6.out (p := ⟨X, 6, none⟩) hwX _)
   refine fr_ ?_
   intro W9 hW9
   have hW9 := hW9.trans (show _ = ((((((((((((w6.setCell ⟨X, 6, none⟩ (.slice (some ⟨g, 0, none⟩) (s3.n.U.length + 1) c')).setCell ⟨R, 0, none⟩ (.int .i64 s3.n.me)).setCell ⟨R, 1, none⟩ (.int .i64 s3.n.ep)).setCell ⟨R, 2, none⟩ (.int .i64 s3.n.up)).setCell ⟨R, 3, none⟩ (.bool s3.n.rd)).setCell ⟨R, 4, none⟩ (.string s3.n.t)).setCell ⟨R, 5, none⟩ (.slice s3.n.sA s3.n.S.length s3.n.sc)).setCell ⟨R, 6, none⟩ (.slice (some ⟨g, 0, none⟩) (s3.n.U.length + 1) c')).setCell ⟨R, 7, none⟩ (.slice s3.n.mA s3.n.M.length s3.n.mc)).setCell ⟨R, 8, none⟩ (.slice s3.A s3.L.length s3.c)).setCell ⟨R, 9, none⟩ (.slice s3.RA s3.RL.length s3.rc))) by first | rfl | simp | (congr 1; done))
   rw [← hW9] at hq
   clear hW9
   refine m_ (fun H => H.heap[R]? = some (.cells #[.int .i64 s3.n.me, .int .i64 s3.n.ep, .int .i64 s3.n.up, .bool s3.n.rd, .string s3.n.t, .slice s3.n.sA s3.n.S.length s3.n.sc, .slice (some ⟨g, 0, none⟩) (s3.n.U.length + 1) c', .slice s3.n.mA s3.n.M.length s3.n.mc, .slice s3.A s3.L.length s3.c, .slice s3.RA s3.RL.length s3.rc] 35 (0, 0)) ∧ NodeV.InS (fun b => w.heap.size ≤ b ∧ b < H.heap.size) H (s3.n.withU (some ⟨g, 0, none⟩) c' u0) ∧ PostsOwn H w.heap.size s3.A s3.c s3.L ∧ RecsOwn H w.heap.size s3.RA s3.rc s3.RL ∧ Below w.heap.size w H) hq ?_
   clear hq r0 r1 r2 r3 r4 r5 r6 r7 r8 r9 rz F0 F1 F2 F3 F4 F5 F6 F7 F8 F9 x0 x1 x2 x3 x4 x5 y6 x7 x8 x9 yz f6
   rintro H ⟨j1, j2, j3, j4, j5⟩
   obtain ⟨r0, r1, r2, r3, r4, r5, r6, r7, r8, r9, rz⟩ := j_ j1
   refine bodyPost_ret (v := .tuple #[.agg #[.int .i64 s3.n.me, .int .i64 s3.n.ep, .int .i64 s3.n.up, .bool s3.n.rd, .string s3.n.t, .slice s3.n.sA s3.n.S.length s3.n.sc, .slice (some ⟨g, 0, none⟩) (s3.n.U.length + 1) c', .slice s3.n.mA s3.n.M.length s3.n.mc, .slice s3.A s3.L.length s3.c, .slice s3.RA s3.RL.length s3.rc], .int .i64 0]) (by simp [results, Tryz.results9, go_sem, r0, r1, r2, r3, r4, r5, r6, r7, r8, r9]) rfl ?_
   refine ⟨⟨(s3.n.withU (some ⟨g, 0, none⟩) c' u0), s3.A, s3.c, s3.L, s3.RA, s3.rc, s3.RL⟩, ?_, ?_, j2, j3, j4, j5⟩
   · simp only [turnCells]
     rw [show (s3.n.withU (some ⟨g, 0, none⟩) c' u0).U.length = (s3.n.U.length + 1) from HUL.out]
     rfl
   · rw [← HK2.out, HU0.out]
     exact nx_ s3 _ _ ⟨bA, bc, iv⟩ H12.out
def RetTurnS (w : World) (D : EdD) (er : Int) (e : Ending) (w' : World) : Prop :=
 ∃ s : EdV, e = .returned (.tuple #[.agg (turnCells s.n (.slice s.A D.L.length s.c) (.slice s.RA D.R.length s.rc)), .int .i64 er]) ∧ s.d = D ∧ s.n.InS (fun b => w.heap.size ≤ b ∧ b < w'.heap.size) w' ∧ PostsOwn w' w.heap.size s.A s.c s.L ∧ RecsOwn w' w.heap.size s.RA s.rc s.RL ∧ Below w.heap.size w w'
theorem RetTurnR.s {w w' : World} {D : EdD} {er : Int} {e : Ending} (h : RetTurnR w D er e w') : RetTurnS w D er e w' := by
 obtain ⟨s, rfl, rfl, h3, h4, h5, h6⟩ := h
 exact ⟨s, by simp, rfl, h3, h4, h5, h6⟩
open Classical in
noncomputable def NE (zs : List Int) (n : NodeV) (ps : List PartD) : Int := if nodeFault zs n ≠ 0 then nodeFault zs n else editErr n.d ps
open Classical in
noncomputable def ND (zs : List Int) (n : NodeV) (ps : List PartD) : EdD := if nodeFault zs n = 0 ∧ editErr n.d ps = 0 then pushD (editDD ps ⟨n.d, [], []⟩) (invOut n.t ps) else zeroD
theorem NE_d {zs : List Int} {n n' : NodeV} (hd : n'.d = n.d) (ps : List PartD) : NE zs n' ps = NE zs n ps := by
 unfold NE
 rw [jf_ hd, hd]
theorem ND_d {zs : List Int} {n n' : NodeV} (hd : n'.d = n.d) (ps : List PartD) : ND zs n' ps = ND zs n ps := by
 have ht : n'.t = n.t := congrArg NodeD.t hd
 unfold ND
 rw [jf_ hd, hd, ht]
section
variable (w : World) (T : Option Addr) (N Nc : Nat) (zs : List Int) (n : NodeV) (hT : Tabs w) (hi : n.In w) (hm : n.Small) (hz : Sl (· < w.heap.size) w 1 T N (zs.map (Value.int .i64))) (hN : N ≤ 9223372036854775807) (pA : Option Addr) (pc : Nat) (ps : List PartD) (hop : OpIn (· < w.heap.size) w pA ps) (hpl : ps.length ≤ 1048576) (hpt : ∀ p ∈ ps, p.text.size ≤ 1048576)
include hT hi hm hz hN hop hpl hpt
theorem yy_ : Calls Tryz.prog 7 #[.slice T N Nc, n.val, .slice pA ps.length pc] w (RetTurnS w (ND zs n ps) (NE zs n ps)) := by
 unfold ND NE
 by_cases h0 : nodeFault zs n = 0
 · rw [if_neg (not_not_intro h0)]
   by_cases h1 : editErr n.d ps = 0
   · rw [if_pos ⟨h0, h1⟩, h1]
     exact (xn_ w T N Nc zs n hT hi hm hz hN pA pc ps hop hpl hpt h0 h1).mono fun _ _ h => h.s
   · rw [if_neg (fun q => h1 q.2)]
     exact (xt_ w T N Nc zs n hT hi hm hz hN pA pc ps hop hpl hpt h0 _ rfl h1).mono fun _ _ h => h.s
 · rw [if_pos h0, if_neg (fun q => h0 q.1)]
   exact (sd_ w T N Nc zs n hT hi hm hz hN pA pc ps _ rfl (by simpa using h0)).mono fun _ _ h => h.s
theorem un_ : Calls Tryz.prog 9 #[.slice T N Nc, n.val, .slice pA ps.length pc] w (RetTurnS w (ND zs n ps) (NE zs n ps)) := by
 unfold ND NE
 by_cases h0 : nodeFault zs n = 0
 · rw [if_neg (not_not_intro h0)]
   by_cases h1 : editErr n.d ps = 0
   · rw [if_pos ⟨h0, h1⟩, h1]
     exact (tb_ w T N Nc zs n hT hi hm hz hN pA pc ps hop hpl hpt h0 h1).mono fun _ _ h => h.s
   · rw [if_neg (fun q => h1 q.2)]
     exact (ty_ w T N Nc zs n hT hi hm hz hN pA pc ps hop hpl hpt h0 _ rfl h1).mono fun _ _ h => h.s
 · rw [if_pos h0, if_neg (fun q => h0 q.1)]
   exact (oq_ w T N Nc zs n hT hi hm hz hN pA pc ps _ rfl (by simpa using h0)).mono fun _ _ h => h.s
end
theorem uk_ {n : NodeV} {ps : List PartD} (hm : n.Small) (hpl : ps.length ≤ 1048576) : MidD (editDD ps ⟨n.d, [], []⟩) := by
 unfold editDD
 refine rt_ hpl (fun x hx => ?_) (by simpa [shiftD, textD] using hm.sl) ?_ (fun o ho => ?_) ?_ (by simp [shiftD, textD]) (by simp [shiftD, textD]) (by simp [shiftD, textD]) (by simp [shiftD, textD])
 · have hx' : x ∈ n.S.map SideV.d := hx
   obtain ⟨y, hy, rfl⟩ := List.mem_map.1 hx'
   exact (hm.sides y hy).smallS
 · have := hm.ul
   show (n.U.map OpV.ps).length ≤ _
   rw [List.length_map]
   omega
 · have ho' : o ∈ n.U.map OpV.ps := ho
   obtain ⟨y, hy, rfl⟩ := List.mem_map.1 ho'
   exact (hm.undo y hy).len
 · have := hm.ml
   show (n.M.map _).length ≤ _
   rw [List.length_map]
   omega
theorem bab_ {zs : List Int} {n : NodeV} {ps : List PartD} (hm : n.Small) (hpl : ps.length ≤ 1048576) : MidD (ND zs n ps) := by
 unfold ND
 split
 · refine wt_ (uk_ hm hpl) ?_ (lk_ _ _)
   rw [jz_]
   show (n.U.map OpV.ps).length ≤ _
   rw [List.length_map]
   exact hm.ul
 · exact wh_
theorem NodeFree.inS {w : World} {base : Nat} {n : NodeV} (h : NodeFree w base n) : n.InS (fun b => base ≤ b ∧ b < w.heap.size) w :=
 ⟨Sl.of_own _ h.srow, fun x hx => (h.side x hx).moved fun _ k => ⟨k.1, rfl⟩, ⟨Sl.of_own _ h.urow, fun o ho => (h.undo o ho).moved fun _ k => ⟨k.1, rfl⟩⟩, Sl.of_own _ h.mrow⟩
structure TurnAt (W : World) (B : Nat) (D : EdD) (s : EdV) : Prop where
 blk : W.heap[B]? = some (.cells (turnCells s.n (.slice s.A D.L.length s.c) (.slice s.RA D.R.length s.rc)) 35 (0, 0))
 d : s.d = D
 n : s.n.In W
 p : PostsIn W s.A s.L
 r : RecsIn W s.RA s.RL
theorem TurnAt.later {W W' : World} {B : Nat} {D : EdD} {s : EdV} (h : TurnAt W B D s) (hb : Below W.heap.size W W') : TurnAt W' B D s :=
 ⟨(hb.block _ (Array.getElem?_eq_some_iff.1 h.blk).1).trans h.blk, h.d, h.n.later hb, h.p.later hb, h.r.later hb⟩
theorem lt_ {W : World} {base : Nat} {D : EdD} {s : EdV} (hd : s.d = D) (hin : s.n.InS (fun b => base ≤ b ∧ b < W.heap.size) W) (hp : PostsOwn W base s.A s.c s.L) (hr : RecsOwn W base s.RA s.rc s.RL) :
 TurnAt (W.alloc (.cells (turnCells s.n (.slice s.A D.L.length s.c) (.slice s.RA D.R.length s.rc)) 35)) W.heap.size D s :=
 ⟨World.alloc_heap_new _ _, hd, (hin.in_ (fun _ hb => hb.2)).later bA_, hp.in_.later bA_, hr.in_.later bA_⟩
theorem ug_ {W : World} {B base : Nat} {D : EdD} {s : EdV} (P Q : Value) (hP : P = .slice s.A D.L.length s.c) (hQ : Q = .slice s.RA D.R.length s.rc) (h : W.heap[B]? = some (.cells z_ 35 (0, 0))) (hB : B < base) (hd : s.d = D) (hin : s.n.InS (fun b => base ≤ b ∧ b < W.heap.size) W) (hp : PostsOwn W base s.A s.c s.L) (hr : RecsOwn W base s.RA s.rc s.RL) :
 TurnAt ((((((((((W.setCell ⟨B, 0, none⟩ (.int .i64 s.n.me)).setCell ⟨B, 1, none⟩ (.int .i64 s.n.ep)).setCell ⟨B, 2, none⟩ (.int .i64 s.n.up)).setCell ⟨B, 3, none⟩ (.bool s.n.rd)).setCell ⟨B, 4, none⟩ (.string s.n.t)).setCell ⟨B, 5, none⟩ (.slice s.n.sA s.n.S.length s.n.sc)).setCell ⟨B, 6, none⟩ (.slice s.n.uA s.n.U.length s.n.uc)).setCell ⟨B, 7, none⟩ (.slice s.n.mA s.n.M.length s.n.mc)).setCell ⟨B, 8, none⟩ P).setCell ⟨B, 9, none⟩ Q) B D s ∧ Only B W ((((((((((W.setCell ⟨B, 0, none⟩ (.int .i64 s.n.me)).setCell ⟨B, 1, none⟩ (.int .i64 s.n.ep)).setCell ⟨B, 2, none⟩ (.int .i64 s.n.up)).setCell ⟨B, 3, none⟩ (.bool s.n.rd)).setCell ⟨B, 4, none⟩ (.string s.n.t)).setCell ⟨B, 5, none⟩ (.slice s.n.sA s.n.S.length s.n.sc)).setCell ⟨B, 6, none⟩ (.slice s.n.uA s.n.U.length s.n.uc)).setCell ⟨B, 7, none⟩ (.slice s.n.mA s.n.M.length s.n.mc)).setCell ⟨B, 8, none⟩ P).setCell ⟨B, 9, none⟩ Q) := by
 subst hP hQ
 have hO : Only B W ((((((((((W.setCell ⟨B, 0, none⟩ (.int .i64 s.n.me)).setCell ⟨B, 1, none⟩ (.int .i64 s.n.ep)).setCell ⟨B, 2, none⟩ (.int .i64 s.n.up)).setCell ⟨B, 3, none⟩ (.bool s.n.rd)).setCell ⟨B, 4, none⟩ (.string s.n.t)).setCell ⟨B, 5, none⟩ (.slice s.n.sA s.n.S.length s.n.sc)).setCell ⟨B, 6, none⟩ (.slice s.n.uA s.n.U.length s.n.uc)).setCell ⟨B, 7, none⟩ (.slice s.n.mA s.n.M.length s.n.mc)).setCell ⟨B, 8, none⟩ (.slice s.A D.L.length s.c)).setCell ⟨B, 9, none⟩ (.slice s.RA D.R.length s.rc)) := (((((((((Only.set _ _ _).trans (Only.set _ _ _)).trans (Only.set _ _ _)).trans (Only.set _ _ _)).trans (Only.set _ _ _)).trans (Only.set _ _ _)).trans (Only.set _ _ _)).trans (Only.set _ _ _)).trans (Only.set _ _ _)).trans (Only.set _ _ _)
 have h9 := ej_ h (.int .i64 s.n.me) (.int .i64 s.n.ep) (.int .i64 s.n.up) (.bool s.n.rd) (.string s.n.t) (.slice s.n.sA s.n.S.length s.n.sc) (.slice s.n.uA s.n.U.length s.n.uc) (.slice s.n.mA s.n.M.length s.n.mc) (.slice s.A D.L.length s.c) (.slice s.RA D.R.length s.rc)
 have hs := hO.size
 generalize ((((((((((W.setCell ⟨B, 0, none⟩ (.int .i64 s.n.me)).setCell ⟨B, 1, none⟩ (.int .i64 s.n.ep)).setCell ⟨B, 2, none⟩ (.int .i64 s.n.up)).setCell ⟨B, 3, none⟩ (.bool s.n.rd)).setCell ⟨B, 4, none⟩ (.string s.n.t)).setCell ⟨B, 5, none⟩ (.slice s.n.sA s.n.S.length s.n.sc)).setCell ⟨B, 6, none⟩ (.slice s.n.uA s.n.U.length s.n.uc)).setCell ⟨B, 7, none⟩ (.slice s.n.mA s.n.M.length s.n.mc)).setCell ⟨B, 8, none⟩ (.slice s.A D.L.length s.c)).setCell ⟨B, 9, none⟩ (.slice s.RA D.R.length s.rc)) = W9 at *
 refine ⟨⟨h9, hd, (hin.moved (S' := fun b => b < W9.heap.size) fun b k => ⟨Nat.lt_of_lt_of_le k.2 hs, hO.block b k.2 (by have := k.1; omega)⟩).in_ (fun _ hb => hb), PostsOwn.in_ (hp.kept hs fun b k hl => hO.block b hl (by omega)), RecsOwn.in_ (hr.kept hs fun b k hl => hO.block b hl (by omega))⟩, hO⟩
end Go.Proofs.YtacacoklddogmaaGreatDoor
