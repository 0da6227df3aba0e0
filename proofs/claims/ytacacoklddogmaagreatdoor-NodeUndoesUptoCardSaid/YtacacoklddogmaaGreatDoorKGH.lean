/- A part of the proof of NodeUndoes. -/
import Derived.Test.YtacacoklddogmaaGreatDoorKGE
namespace Go.Proofs.YtacacoklddogmaaGreatDoor
set_option maxHeartbeats 4000000
open Go.ChangeShapes Go.WideShapes Go.ChangeAt Go.RowKit
set_option maxRecDepth 100000
theorem yg_ {w : World} {base g n c k : Nat} {e : TypeId} {xs : List Value} (h : w.ownsRow base e 1 (.slice (some ⟨g, 0, none⟩) n c) n xs) (hk : k ≤ n) : w.ownsRow base e 1 (.slice (some ⟨g, 0, none⟩) k c) k (xs.take k) := by
 have hl := h.1
 rcases h.2 with ⟨h', _⟩ | ⟨g', cap', cur, h', hb, hg, hnc, hcm, hcs, htake⟩
 · simp at h'
 · simp only [Value.slice.injEq, Option.some.injEq, Addr.mk.injEq, and_true, true_and] at h'
   obtain ⟨rfl, rfl⟩ := h'
   refine ⟨by simp; omega, .inr ⟨g, c, cur, rfl, hb, hg, by omega, hcm, hcs, ?_⟩⟩
   rw [← htake, List.take_take]
   congr 1
   omega
abbrev EdV.withU (s : EdV) (uA : Option Addr) (uc : Nat) (U : List OpV) : EdV := ⟨s.n.withU uA uc U, s.A, s.c, s.L, s.RA, s.rc, s.RL⟩
theorem EdAt.takeU {T : TypeId} {W : World} {base X g k : Nat} {s : EdV} (hT : TurnT T) (h : EdAt T W base X s) (hg : s.n.uA = some ⟨g, 0, none⟩) (hk : k ≤ s.n.U.length) :
 EdAt T (W.setCell ⟨X, 6, none⟩ (.slice (some ⟨g, 0, none⟩) k s.n.uc)) base X (s.withU (some ⟨g, 0, none⟩) s.n.uc (s.n.U.take k)) ∧ Below base W (W.setCell ⟨X, 6, none⟩ (.slice (some ⟨g, 0, none⟩) k s.n.uc)) ∧ Stay W X s (W.setCell ⟨X, 6, none⟩ (.slice (some ⟨g, 0, none⟩) k s.n.uc)) (s.withU (some ⟨g, 0, none⟩) s.n.uc (s.n.U.take k)) := by
 have hlen : (s.n.U.take k).length = k := by simp; omega
 have hr := h.urow
 rw [hg] at hr
 have ho : (Value.slice (some ⟨g, 0, none⟩) (s.n.U.take k).length s.n.uc).ownBlock = s.n.uOwn := by rw [NodeV.uOwn, hg]; rfl
 have hX := e_ 6 (.slice (some ⟨g, 0, none⟩) k s.n.uc) h.busy.blk
 have hO : Only X W (W.setCell ⟨X, 6, none⟩ (.slice (some ⟨g, 0, none⟩) k s.n.uc)) := Only.set _ _ _
 have hb4 : ∀ b, b ≠ X → (W.setCell ⟨X, 6, none⟩ (.slice (some ⟨g, 0, none⟩) k s.n.uc)).heap[b]? = W.heap[b]? := fun b hb => bH_ hb
 have hs4 : (W.setCell ⟨X, 6, none⟩ (.slice (some ⟨g, 0, none⟩) k s.n.uc)).heap.size = W.heap.size := by simp [World.setCell]
 generalize W.setCell ⟨X, 6, none⟩ (.slice (some ⟨g, 0, none⟩) k s.n.uc) = W5 at *
 refine ⟨EditAt.undoRow hT h (Below.refl _ _) (W2 := W) (w3 := W) (fun o hm => .inl (List.mem_of_mem_take hm)) (World.grownBy.refl W _) (by rw [hlen, List.map_take]; exact yg_ hr hk) (.inl ho) hs4 hb4 ?_, hO.below h.busy.lo h.base_le, fun b hb => ?_⟩
 · rw [show turnCells (s.n.withU (some ⟨g, 0, none⟩) s.n.uc (s.n.U.take k)) (.slice s.A s.L.length s.c) (.slice s.RA s.RL.length s.rc) = #[.int .i64 s.n.me, .int .i64 s.n.ep, .int .i64 s.n.up, .bool s.n.rd, .string s.n.t, .slice s.n.sA s.n.S.length s.n.sc, .slice (some ⟨g, 0, none⟩) k s.n.uc, .slice s.n.mA s.n.M.length s.n.mc, .slice s.A s.L.length s.c, .slice s.RA s.RL.length s.rc] by simp only [turnCells, NodeV.withU, hlen]]
   exact hX
 · refine ⟨⟨⟨hb.1.1, by rw [hs4]; exact hb.1.2⟩, hb.2.1, hb.2.2.1, hb.2.2.2.1, fun r hr' => ?_⟩, hb4 b hb.2.1⟩
   simp only [List.mem_cons, List.not_mem_nil, or_false] at hr'
   rcases hr' with rfl | rfl | rfl
   · exact hb.2.2.2.2 s.n.mOwn (by simp)
   · rw [show ((s.withU (some ⟨g, 0, none⟩) s.n.uc (s.n.U.take k)).n.uOwn) = s.n.uOwn from ho]
     exact hb.2.2.2.2 s.n.uOwn (by simp)
   · exact hb.2.2.2.2 _ (by simp)
def undoErr (n : NodeD) : Int := if n.rd = false then 12 else if n.U.length = 0 then 6 else editErr n (n.U.getD (n.U.length - 1) [])
def lastU (n : NodeD) : List PartD := n.U.getD (n.U.length - 1) []
def preD (n : NodeD) : EdD := ⟨⟨n.me, n.ep, n.up, n.rd, n.t, n.S, n.U.take (n.U.length - 1), n.M⟩, [], []⟩
def undoDD (n : NodeD) : EdD := editDD (lastU n) (preD n)
theorem mc_ {n : NodeD} {er : Int} (h : undoErr n = er) : (n.rd = false ∧ er = 12) ∨ (n.rd = true ∧ n.U.length = 0 ∧ er = 6) ∨ (n.rd = true ∧ 0 < n.U.length ∧ editErr n (lastU n) = er) := by
 unfold undoErr at h
 by_cases h1 : n.rd = false
 · rw [if_pos h1] at h
   exact .inl ⟨h1, h.symm⟩
 · have h1' : n.rd = true := by simpa using h1
   rw [if_neg h1] at h
   by_cases h2 : n.U.length = 0
   · rw [if_pos h2] at h
     exact .inr (.inl ⟨h1', h2, h.symm⟩)
   · rw [if_neg h2] at h
     exact .inr (.inr ⟨h1', by omega, h⟩)
theorem ec_ {n n' : NodeD} (h1 : n'.rd = n.rd) (h2 : n'.t = n.t) (h3 : n'.S = n.S) (ps : List PartD) : editErr n' ps = editErr n ps := by
 unfold editErr
 rw [h1, h2, h3]
theorem fm_ {n : NodeV} (h : 0 < n.U.length) : lastU n.d = (n.U[n.U.length - 1]'(by omega)).ps := by
 unfold lastU
 show (n.U.map OpV.ps).getD ((n.U.map OpV.ps).length - 1) [] = _
 rw [List.length_map, List.getD_eq_getElem?_getD, List.getElem?_map, List.getElem?_eq_getElem (by omega)]
 rfl
end Go.Proofs.YtacacoklddogmaaGreatDoor

namespace Go.Proofs.YtacacoklddogmaaGreatDoor
set_option maxHeartbeats 4000000
open Go.ChangeShapes Go.WideShapes Go.ChangeAt Go.RowKit
set_option maxRecDepth 100000
theorem rp_ (w : World) (T : Option Addr) (N Nc : Nat) (zs : List Int) (n : NodeV) (hT : Tabs w) (hi : n.In w) (hm : n.Small) (hz : Sl (· < w.heap.size) w 1 T N (zs.map (Value.int .i64))) (hN : N ≤ 9223372036854775807) (er : Int) (h0 : nodeFault zs n = er) (hne : (er == 0) = false) : Calls Tryz.prog 12 #[.slice T N Nc, n.val] w (RetTurnR w zeroD er) := by
 have H1 := h_ (fun W hT (hi : n.In W) hz => xt_ W T N Nc zs n hT hi hm hz hN er h0 hne)
 have HT := h_ hT
 have HZ := h_ hz
 have HI := h_ hi
 clear hT hz hi hm h0
 have HA := h_ (TickAt.new w n.cv)
 obtain ⟨WA, hWA⟩ : ∃ WA, WA = ((w.alloc (.cells n.cv 28)).alloc (.cells z_ 35)) := ⟨_, rfl⟩
 rw [← hWA] at HA
 have HW := h_ hWA.symm
 obtain ⟨R, hR⟩ : ∃ R, R = w.heap.size + 1 := ⟨_, rfl⟩
 rw [← hR] at HA
 have HRE := h_ hR.symm
 clear hWA hR
 obtain ⟨n0, n1, n2, n3, n4, n5, n6, n7, nz⟩ := l_ HA.out.nd
 go_enter Tryz.func12, Tryz.ntmps12
 go_wp2_with fail
 rw [HW.out, HRE.out]
 clear n0 n1 n2 n3 n4 n5 n6 n7 nz
 refine (H1.out _ (HT.out.later HA.out.b) (HI.out.later HA.out.b) (Sl.later HZ.out HA.out.b)).mono ?_
 rintro r w1 ⟨rfl, hb1⟩
 have HB := h_ (HA.out.later hb1)
 have HRB := h_ (HA.out.later hb1).r
 have HBB := h_ (HA.out.later hb1).b
 clear hb1
 have hne' : (er != 0) = true := by simp [bne, hne]
 obtain ⟨r0, r1, r2, r3, r4, r5, r6, r7, r8, r9, rz⟩ := f_ HRB.out
 have F0 := tenF HRB.out 0
 have F1 := tenF HRB.out 1
 have F2 := tenF HRB.out 2
 have F3 := tenF HRB.out 3
 have F4 := tenF HRB.out 4
 have F5 := tenF HRB.out 5
 have F6 := tenF HRB.out 6
 have F7 := tenF HRB.out 7
 have F8 := tenF HRB.out 8
 have F9 := tenF HRB.out 9
 go_wp2_with fail
 refine n_ (fun H => H.heap[R]? = some (.cells z_ 35 (0, 0)) ∧ Below w.heap.size w H) ⟨cu_ HRB.out _ _ _ _ _ _ _ _ _ _, ?_⟩ ?_
 · have hwR : w.heap.size ≤ R := by have := HA.out.hr; omega
   repeat (refine bSet ?_ (by exact hwR) _)
   exact HBB.out
 clear r0 r1 r2 r3 r4 r5 r6 r7 r8 r9 rz F0 F1 F2 F3 F4 F5 F6 F7 F8 F9
 rintro H ⟨j1, j3⟩
 obtain ⟨r0, r1, r2, r3, r4, r5, r6, r7, r8, r9, rz⟩ := f_ j1
 refine bodyPost_ret (v := .tuple #[.agg #[.int .i64 0, .int .i64 0, .int .i64 0, .bool false, .string ⟨#[]⟩, .slice none 0 0, .slice none 0 0, .slice none 0 0, .slice none 0 0, .slice none 0 0], .int .i64 er]) (by simp [results, Tryz.results12, go_sem, r0, r1, r2, r3, r4, r5, r6, r7, r8, r9]) rfl ?_
 exact ⟨⟨zeroN, none, 0, [], none, 0, []⟩, rfl, rfl, ct_ _ _, RowOwn.nil _ _, RowOwn.nil _ _, j3⟩
theorem te_ (w : World) (T : Option Addr) (N Nc : Nat) (zs : List Int) (n : NodeV) (hT : Tabs w) (hi : n.In w) (hm : n.Small) (hz : Sl (· < w.heap.size) w 1 T N (zs.map (Value.int .i64))) (hN : N ≤ 9223372036854775807) (h0 : nodeFault zs n = 0) (hrd : n.rd = false) : Calls Tryz.prog 12 #[.slice T N Nc, n.val] w (RetTurnR w zeroD 12) := by
 have H1 := h_ (fun W hT (hi : n.In W) hz => ig_ W T N Nc zs n hT hi hm hz hN h0)
 have HT := h_ hT
 have HZ := h_ hz
 have HI := h_ hi
 have HRD := h_ hrd
 clear hT hz hi hm h0 hrd
 have HA := h_ (TickAt.new w n.cv)
 obtain ⟨WA, hWA⟩ : ∃ WA, WA = ((w.alloc (.cells n.cv 28)).alloc (.cells z_ 35)) := ⟨_, rfl⟩
 rw [← hWA] at HA
 have HW := h_ hWA.symm
 obtain ⟨R, hR⟩ : ∃ R, R = w.heap.size + 1 := ⟨_, rfl⟩
 rw [← hR] at HA
 have HRE := h_ hR.symm
 clear hWA hR
 obtain ⟨n0, n1, n2, n3, n4, n5, n6, n7, nz⟩ := l_ HA.out.nd
 go_enter Tryz.func12, Tryz.ntmps12
 go_wp2_with fail
 rw [HW.out, HRE.out]
 clear n0 n1 n2 n3 n4 n5 n6 n7 nz
 refine (H1.out _ (HT.out.later HA.out.b) (HI.out.later HA.out.b) (Sl.later HZ.out HA.out.b)).mono ?_
 rintro r w1 ⟨X, n', W2, rfl, hd, hX, hx, hfree, hXW, hb2, hb1⟩
 have HB := h_ (HA.out.later hb1)
 have HRB := h_ (HA.out.later hb1).r
 have HBB := h_ (HA.out.later hb1).b
 obtain ⟨n0, n1, n2, n3, n4, n5, n6, n7, nz⟩ := l_ HB.out.nd
 rw [HRD.out] at n3
 clear hd hX hx hfree hXW hb2 hb1
 obtain ⟨r0, r1, r2, r3, r4, r5, r6, r7, r8, r9, rz⟩ := f_ HRB.out
 have F0 := tenF HRB.out 0
 have F1 := tenF HRB.out 1
 have F2 := tenF HRB.out 2
 have F3 := tenF HRB.out 3
 have F4 := tenF HRB.out 4
 have F5 := tenF HRB.out 5
 have F6 := tenF HRB.out 6
 have F7 := tenF HRB.out 7
 have F8 := tenF HRB.out 8
 have F9 := tenF HRB.out 9
 go_wp2_with fail
 refine n_ (fun H => H.heap[R]? = some (.cells z_ 35 (0, 0)) ∧ Below w.heap.size w H) ⟨cu_ HRB.out _ _ _ _ _ _ _ _ _ _, ?_⟩ ?_
 · have hwR : w.heap.size ≤ R := by have := HA.out.hr; omega
   repeat (refine bSet ?_ (by exact hwR) _)
   exact HBB.out
 clear r0 r1 r2 r3 r4 r5 r6 r7 r8 r9 rz F0 F1 F2 F3 F4 F5 F6 F7 F8 F9
 rintro H ⟨j1, j3⟩
 obtain ⟨r0, r1, r2, r3, r4, r5, r6, r7, r8, r9, rz⟩ := f_ j1
 refine bodyPost_ret (v := .tuple #[.agg #[.int .i64 0, .int .i64 0, .int .i64 0, .bool false, .string ⟨#[]⟩, .slice none 0 0, .slice none 0 0, .slice none 0 0, .slice none 0 0, .slice none 0 0], .int .i64 12]) (by simp [results, Tryz.results12, go_sem, r0, r1, r2, r3, r4, r5, r6, r7, r8, r9]) rfl ?_
 exact ⟨⟨zeroN, none, 0, [], none, 0, []⟩, rfl, rfl, ct_ _ _, RowOwn.nil _ _, RowOwn.nil _ _, j3⟩
theorem tf_ (w : World) (T : Option Addr) (N Nc : Nat) (zs : List Int) (n : NodeV) (hT : Tabs w) (hi : n.In w) (hm : n.Small) (hz : Sl (· < w.heap.size) w 1 T N (zs.map (Value.int .i64))) (hN : N ≤ 9223372036854775807) (h0 : nodeFault zs n = 0) (hrd : n.rd = true) (hU : n.U.length = 0) : Calls Tryz.prog 12 #[.slice T N Nc, n.val] w (RetTurnR w zeroD 6) := by
 have H1 := h_ (fun W hT (hi : n.In W) hz => ig_ W T N Nc zs n hT hi hm hz hN h0)
 have HT := h_ hT
 have HZ := h_ hz
 have HI := h_ hi
 have HRD := h_ hrd
 have HUL := h_ hU
 clear hT hz hi hm h0 hrd hU
 have HA := h_ (TickAt.new w n.cv)
 obtain ⟨WA, hWA⟩ : ∃ WA, WA = ((w.alloc (.cells n.cv 28)).alloc (.cells z_ 35)) := ⟨_, rfl⟩
 rw [← hWA] at HA
 have HW := h_ hWA.symm
 obtain ⟨R, hR⟩ : ∃ R, R = w.heap.size + 1 := ⟨_, rfl⟩
 rw [← hR] at HA
 have HRE := h_ hR.symm
 clear hWA hR
 obtain ⟨n0, n1, n2, n3, n4, n5, n6, n7, nz⟩ := l_ HA.out.nd
 go_enter Tryz.func12, Tryz.ntmps12
 go_wp2_with fail
 rw [HW.out, HRE.out]
 clear n0 n1 n2 n3 n4 n5 n6 n7 nz
 refine (H1.out _ (HT.out.later HA.out.b) (HI.out.later HA.out.b) (Sl.later HZ.out HA.out.b)).mono ?_
 rintro r w1 ⟨X, n', W2, rfl, hd, hX, hx, hfree, hXW, hb2, hb1⟩
 have HB := h_ (HA.out.later hb1)
 have HRB := h_ (HA.out.later hb1).r
 have HBB := h_ (HA.out.later hb1).b
 obtain ⟨n0, n1, n2, n3, n4, n5, n6, n7, nz⟩ := l_ HB.out.nd
 rw [HRD.out] at n3
 obtain ⟨_, _, _, _, _, _, x6, _, _, _, xz⟩ := f_ hx
 have hul : n'.U.length = 0 := (mapLen (show n'.U.map OpV.ps = n.U.map OpV.ps from congrArg NodeD.U hd)).trans HUL.out
 rw [hul] at x6
 clear hd hX hx hfree hXW hb2 hb1 hul
 go_wp2_with fail
 refine (bo_ _ X).mono ?_
 rintro r w4 ⟨rfl, rfl⟩
 obtain ⟨r0, r1, r2, r3, r4, r5, r6, r7, r8, r9, rz⟩ := f_ HRB.out
 have F0 := tenF HRB.out 0
 have F1 := tenF HRB.out 1
 have F2 := tenF HRB.out 2
 have F3 := tenF HRB.out 3
 have F4 := tenF HRB.out 4
 have F5 := tenF HRB.out 5
 have F6 := tenF HRB.out 6
 have F7 := tenF HRB.out 7
 have F8 := tenF HRB.out 8
 have F9 := tenF HRB.out 9
 go_wp2_with fail
 refine n_ (fun H => H.heap[R]? = some (.cells z_ 35 (0, 0)) ∧ Below w.heap.size w H) ⟨cu_ HRB.out _ _ _ _ _ _ _ _ _ _, ?_⟩ ?_
 · have hwR : w.heap.size ≤ R := by have := HA.out.hr; omega
   repeat (refine bSet ?_ (by exact hwR) _)
   exact HBB.out
 clear r0 r1 r2 r3 r4 r5 r6 r7 r8 r9 rz F0 F1 F2 F3 F4 F5 F6 F7 F8 F9
 rintro H ⟨j1, j3⟩
 obtain ⟨r0, r1, r2, r3, r4, r5, r6, r7, r8, r9, rz⟩ := f_ j1
 refine bodyPost_ret (v := .tuple #[.agg #[.int .i64 0, .int .i64 0, .int .i64 0, .bool false, .string ⟨#[]⟩, .slice none 0 0, .slice none 0 0, .slice none 0 0, .slice none 0 0, .slice none 0 0], .int .i64 6]) (by simp [results, Tryz.results12, go_sem, r0, r1, r2, r3, r4, r5, r6, r7, r8, r9]) rfl ?_
 exact ⟨⟨zeroN, none, 0, [], none, 0, []⟩, rfl, rfl, ct_ _ _, RowOwn.nil _ _, RowOwn.nil _ _, j3⟩
theorem xn_ (w : World) (T : Option Addr) (N Nc : Nat) (zs : List Int) (n : NodeV) (hT : Tabs w) (hi : n.In w) (hm : n.Small) (hz : Sl (· < w.heap.size) w 1 T N (zs.map (Value.int .i64))) (hN : N ≤ 9223372036854775807) (h0 : nodeFault zs n = 0) (hrd : n.rd = true) (hU : 0 < n.U.length) (er : Int) (hE : editErr n.d (lastU n.d) = er) (hne : er ≠ 0) : Calls Tryz.prog 12 #[.slice T N Nc, n.val] w (RetTurnR w zeroD er) := by
 have HT := h_ hT
 have HZ := h_ hz
 have HI := h_ hi
 have HM := h_ hm
 have H1 := h_ (fun W hT (hi : n.In W) hz => ig_ W T N Nc zs n hT hi hm hz hN h0)
 have HRD := h_ hrd
 have HUP := h_ hU
 have HU12 := h_ (show n.U.length ≤ 12 from (dr_ h0).2.1.2.1)
 have HER := h_ hE
 have hne' : (er != 0) = true := by simpa using hne
 have HNE := h_ hne
 clear hT hz hi hm h0 hrd hU hE hne
 have HA := h_ (TickAt.new w n.cv)
 obtain ⟨WA, hWA⟩ : ∃ WA, WA = ((w.alloc (.cells n.cv 28)).alloc (.cells z_ 35)) := ⟨_, rfl⟩
 rw [← hWA] at HA
 have HW := h_ hWA.symm
 obtain ⟨R, hR⟩ : ∃ R, R = w.heap.size + 1 := ⟨_, rfl⟩
 rw [← hR] at HA
 have HRE := h_ hR.symm
 clear hWA hR
 obtain ⟨n0, n1, n2, n3, n4, n5, n6, n7, nz⟩ := l_ HA.out.nd
 go_enter Tryz.func12, Tryz.ntmps12
 go_wp2_with fail
 rw [HW.out, HRE.out]
 clear n0 n1 n2 n3 n4 n5 n6 n7 nz
 refine (H1.out _ (HT.out.later HA.out.b) (HI.out.later HA.out.b) (Sl.later HZ.out HA.out.b)).mono ?_
 rintro r w1 ⟨X, n', W2, rfl, hd, hX, hx, hfree, hXW, hb2, hb1⟩
 have HB := h_ (HA.out.later hb1)
 obtain ⟨s0, hs0⟩ : ∃ s0 : EdV, s0 = ⟨n', none, 0, [], none, 0, []⟩ := ⟨_, rfl⟩
 have HE := h_ (show EdAt 71 w1 WA.heap.size X s0 by rw [hs0]; exact EditAt.new hfree hXW hX hb2 hx)
 have HSD := h_ (show s0.d = ⟨n.d, [], []⟩ by rw [hs0]; exact EdD.ext' hd rfl rfl)
 have HSN := h_ (show s0.n.d = n.d by rw [hs0]; exact hd)
 have HSS := h_ (show s0.n.Small by rw [hs0]; exact NodeV.Small.of_d hd HM.out)
 have HSL := h_ (show s0.L.length = 0 ∧ s0.RL.length = 0 by rw [hs0]; exact ⟨rfl, rfl⟩)
 have HTE := h_ (show ∀ W, Below WA.heap.size w1 W → Tabs W from fun W hb => HT.out.later (HB.out.b.trans (hb.mono HA.out.b.size)))
 have hRX : R < X := by have := HA.out.rz; omega
 clear hd hx hfree hXW hb2 hb1 hs0
 obtain ⟨n0, n1, n2, n3, n4, n5, n6, n7, nz⟩ := l_ HB.out.nd
 rw [HRD.out] at n3
 go_wp2_with fail
 refine (bo_ _ X).mono ?_
 rintro r w4 ⟨rfl, rfl⟩
 clear n0 n1 n2 n3 n4 n5 n6 n7 nz
 obtain ⟨_, _, _, _, _, _, x6, _, _, _, xz⟩ := f_ HE.out.busy.blk
 have f6 := tenF HE.out.busy.blk 6
 have hul : s0.n.U.length = n.U.length := mapLen (congrArg NodeD.U HSN.out)
 obtain ⟨K, hK⟩ : ∃ K, s0.n.U.length = K + 1 := ⟨s0.n.U.length - 1, by have := HUP.out; omega⟩
 have hKl : K < s0.n.U.length := by omega
 obtain ⟨g, hg⟩ : ∃ g, s0.n.uA = some ⟨g, 0, none⟩ := by
  obtain ⟨g, cap, hv, _, _⟩ := HE.out.urow.form (by omega)
  exact ⟨g, by injection hv⟩
 have hur := HE.out.urow
 rw [hg] at hur
 have c0 : w1.cell? ⟨g, K, none⟩ = some (.slice s0.n.U[K].A s0.n.U[K].ps.length s0.n.U[K].c) := by
  have h9 := hur.cellAt K (by omega)
  rw [h9, List.getElem?_map, List.getElem?_eq_getElem hKl]
  rfl
 have hcap := gm_ hur
 rw [hK] at hcap
 rw [hg, hK] at x6
 have HOF := h_ ((HE.out.undo _ (List.getElem_mem hKl)).moved (S' := Off w1 X s0) (w' := w1) fun b hb => ⟨qf_ hb, rfl⟩)
 have HOS := h_ (HSS.out.undo _ (List.getElem_mem hKl))
 have HLU := h_ (show lastU n.d = s0.n.U[K].ps by
  rw [← HSN.out, fm_ (by omega)]
  congr 2
  omega)
 have HTK := h_ (fun (_ : True) => EdAt.takeU cn_ HE.out hg (k := K) (by omega))
 have hK12 : K < 12 := by have := HU12.out; omega
 have hgl : g < w1.heap.size := (hur.lt g rfl).2
 have HKN := h_ (show n.U.length - 1 = K by omega)
 have HD2 := h_ (show (s0.withU (some ⟨g, 0, none⟩) s0.n.uc (s0.n.U.take K)).d = preD n.d by
  have e1 := HSN.out
  have e2 := congrArg EdD.L HSD.out
  have e3 := congrArg EdD.R HSD.out
  refine EdD.ext' ?_ e2 e3
  rw [← e1]
  show (⟨_, _, _, _, _, _, (s0.n.U.take K).map OpV.ps, _⟩ : NodeD) = ⟨_, _, _, _, _, _, (s0.n.U.map OpV.ps).take ((s0.n.U.map OpV.ps).length - 1), _⟩
  rw [List.map_take, List.length_map, hK]
  rfl)
 have HS2 := h_ (show (s0.withU (some ⟨g, 0, none⟩) s0.n.uc (s0.n.U.take K)).n.Small from ⟨HSS.out.text, HSS.out.sl, HSS.out.sides, by show (s0.n.U.take K).length ≤ _; have := HSS.out.ul; simp; omega, fun o ho => HSS.out.undo o (List.mem_of_mem_take ho), HSS.out.ml⟩)
 have HEQ := h_ (show ∀ qs, editErr (s0.withU (some ⟨g, 0, none⟩) s0.n.uc (s0.n.U.take K)).d.n qs = editErr n.d qs from fun qs => ec_ (congrArg NodeD.rd HSN.out) (congrArg NodeD.t HSN.out) (congrArg NodeD.S HSN.out) qs)
 clear hul hg hur
 generalize s0.n.U[K] = q at *
 obtain ⟨qA, qc, qp⟩ := q
 dsimp only at c0
 have HCA := h_ hcap
 have hw : wrap64 ((K : Int) + 1 - 1) = K := by unfold wrap64; omega
 have hKc : K ≤ s0.n.uc := by omega
 clear hcap hK hKl
 go_wp2_with fail
 have ht := HTK.out trivial
 refine (yz_ _ WA.heap.size X (s0.withU (some ⟨g, 0, none⟩) s0.n.uc (s0.n.U.take K)) qA qc qp (fun W hb => HTE.out W (ht.2.1.trans hb)) ht.1 (HOF.out.moved fun b hb => ht.2.2 b hb) HOS.out.len HOS.out.text HS2.out er (by rw [HEQ.out, ← HLU.out]; exact HER.out) HNE.out).mono ?_
 rintro r w5 ⟨rfl, hb5⟩
 have hwz : w.heap.size ≤ WA.heap.size := HA.out.b.size
 have HRB := h_ ((hb5.block R (by have := HB.out.rz; simp [World.setCell]; omega)).trans ((bH_ (by show R ≠ X; omega)).trans HB.out.r))
 have HBB := h_ (show Below w.heap.size w w5 from (HB.out.b.trans (ht.2.1.mono hwz)).trans (hb5.mono (by have := HB.out.b.size; simp [World.setCell]; omega)))
 clear hb5 ht x6 f6 xz c0 hgl
 obtain ⟨r0, r1, r2, r3, r4, r5, r6, r7, r8, r9, rz⟩ := f_ HRB.out
 have F0 := tenF HRB.out 0
 have F1 := tenF HRB.out 1
 have F2 := tenF HRB.out 2
 have F3 := tenF HRB.out 3
 have F4 := tenF HRB.out 4
 have F5 := tenF HRB.out 5
 have F6 := tenF HRB.out 6
 have F7 := tenF HRB.out 7
 have F8 := tenF HRB.out 8
 have F9 := tenF HRB.out 9
 go_wp2_with fail
 refine n_ (fun H => H.heap[R]? = some (.cells z_ 35 (0, 0)) ∧ Below w.heap.size w H) ⟨cu_ HRB.out _ _ _ _ _ _ _ _ _ _, ?_⟩ ?_
 · have hwR : w.heap.size ≤ R := by have := HA.out.hr; omega
   repeat (refine bSet ?_ (by exact hwR) _)
   exact HBB.out
 clear r0 r1 r2 r3 r4 r5 r6 r7 r8 r9 rz F0 F1 F2 F3 F4 F5 F6 F7 F8 F9
 rintro H ⟨j1, j3⟩
 obtain ⟨r0, r1, r2, r3, r4, r5, r6, r7, r8, r9, rz⟩ := f_ j1
 refine bodyPost_ret (v := .tuple #[.agg #[.int .i64 0, .int .i64 0, .int .i64 0, .bool false, .string ⟨#[]⟩, .slice none 0 0, .slice none 0 0, .slice none 0 0, .slice none 0 0, .slice none 0 0], .int .i64 er]) (by simp [results, Tryz.results12, go_sem, r0, r1, r2, r3, r4, r5, r6, r7, r8, r9]) rfl ?_
 exact ⟨⟨zeroN, none, 0, [], none, 0, []⟩, rfl, rfl, ct_ _ _, RowOwn.nil _ _, RowOwn.nil _ _, j3⟩
theorem xo_ (w : World) (T : Option Addr) (N Nc : Nat) (zs : List Int) (n : NodeV) (hT : Tabs w) (hi : n.In w) (hm : n.Small) (hz : Sl (· < w.heap.size) w 1 T N (zs.map (Value.int .i64))) (hN : N ≤ 9223372036854775807) (h0 : nodeFault zs n = 0) (hrd : n.rd = true) (hU : 0 < n.U.length) (hE : editErr n.d (lastU n.d) = 0) : Calls Tryz.prog 12 #[.slice T N Nc, n.val] w (RetTurnR w (undoDD n.d) 0) := by
 have HT := h_ hT
 have HZ := h_ hz
 have HI := h_ hi
 have HM := h_ hm
 have H1 := h_ (fun W hT (hi : n.In W) hz => ig_ W T N Nc zs n hT hi hm hz hN h0)
 have HRD := h_ hrd
 have HUP := h_ hU
 have HU12 := h_ (show n.U.length ≤ 12 from (dr_ h0).2.1.2.1)
 have HER := h_ hE
 clear hT hz hi hm h0 hrd hU hE
 have HA := h_ (TickAt.new w n.cv)
 obtain ⟨WA, hWA⟩ : ∃ WA, WA = ((w.alloc (.cells n.cv 28)).alloc (.cells z_ 35)) := ⟨_, rfl⟩
 rw [← hWA] at HA
 have HW := h_ hWA.symm
 obtain ⟨R, hR⟩ : ∃ R, R = w.heap.size + 1 := ⟨_, rfl⟩
 rw [← hR] at HA
 have HRE := h_ hR.symm
 clear hWA hR
 obtain ⟨n0, n1, n2, n3, n4, n5, n6, n7, nz⟩ := l_ HA.out.nd
 go_enter Tryz.func12, Tryz.ntmps12
 go_wp2_with fail
 rw [HW.out, HRE.out]
 clear n0 n1 n2 n3 n4 n5 n6 n7 nz
 refine (H1.out _ (HT.out.later HA.out.b) (HI.out.later HA.out.b) (Sl.later HZ.out HA.out.b)).mono ?_
 rintro r w1 ⟨X, n', W2, rfl, hd, hX, hx, hfree, hXW, hb2, hb1⟩
 have HB := h_ (HA.out.later hb1)
 obtain ⟨s0, hs0⟩ : ∃ s0 : EdV, s0 = ⟨n', none, 0, [], none, 0, []⟩ := ⟨_, rfl⟩
 have HE := h_ (show EdAt 71 w1 WA.heap.size X s0 by rw [hs0]; exact EditAt.new hfree hXW hX hb2 hx)
 have HSD := h_ (show s0.d = ⟨n.d, [], []⟩ by rw [hs0]; exact EdD.ext' hd rfl rfl)
 have HSN := h_ (show s0.n.d = n.d by rw [hs0]; exact hd)
 have HSS := h_ (show s0.n.Small by rw [hs0]; exact NodeV.Small.of_d hd HM.out)
 have HSL := h_ (show s0.L.length = 0 ∧ s0.RL.length = 0 by rw [hs0]; exact ⟨rfl, rfl⟩)
 have HTE := h_ (show ∀ W, Below WA.heap.size w1 W → Tabs W from fun W hb => HT.out.later (HB.out.b.trans (hb.mono HA.out.b.size)))
 have hRX : R < X := by have := HA.out.rz; omega
 clear hd hx hfree hXW hb2 hb1 hs0
 obtain ⟨n0, n1, n2, n3, n4, n5, n6, n7, nz⟩ := l_ HB.out.nd
 rw [HRD.out] at n3
 go_wp2_with fail
 refine (bo_ _ X).mono ?_
 rintro r w4 ⟨rfl, rfl⟩
 clear n0 n1 n2 n3 n4 n5 n6 n7 nz
 obtain ⟨_, _, _, _, _, _, x6, _, _, _, xz⟩ := f_ HE.out.busy.blk
 have f6 := tenF HE.out.busy.blk 6
 have hul : s0.n.U.length = n.U.length := mapLen (congrArg NodeD.U HSN.out)
 obtain ⟨K, hK⟩ : ∃ K, s0.n.U.length = K + 1 := ⟨s0.n.U.length - 1, by have := HUP.out; omega⟩
 have hKl : K < s0.n.U.length := by omega
 obtain ⟨g, hg⟩ : ∃ g, s0.n.uA = some ⟨g, 0, none⟩ := by
  obtain ⟨g, cap, hv, _, _⟩ := HE.out.urow.form (by omega)
  exact ⟨g, by injection hv⟩
 have hur := HE.out.urow
 rw [hg] at hur
 have c0 : w1.cell? ⟨g, K, none⟩ = some (.slice s0.n.U[K].A s0.n.U[K].ps.length s0.n.U[K].c) := by
  have h9 := hur.cellAt K (by omega)
  rw [h9, List.getElem?_map, List.getElem?_eq_getElem hKl]
  rfl
 have hcap := gm_ hur
 rw [hK] at hcap
 rw [hg, hK] at x6
 have HOF := h_ ((HE.out.undo _ (List.getElem_mem hKl)).moved (S' := Off w1 X s0) (w' := w1) fun b hb => ⟨qf_ hb, rfl⟩)
 have HOS := h_ (HSS.out.undo _ (List.getElem_mem hKl))
 have HLU := h_ (show lastU n.d = s0.n.U[K].ps by
  rw [← HSN.out, fm_ (by omega)]
  congr 2
  omega)
 have HTK := h_ (fun (_ : True) => EdAt.takeU cn_ HE.out hg (k := K) (by omega))
 have hK12 : K < 12 := by have := HU12.out; omega
 have hgl : g < w1.heap.size := (hur.lt g rfl).2
 have HKN := h_ (show n.U.length - 1 = K by omega)
 have HD2 := h_ (show (s0.withU (some ⟨g, 0, none⟩) s0.n.uc (s0.n.U.take K)).d = preD n.d by
  have e1 := HSN.out
  have e2 := congrArg EdD.L HSD.out
  have e3 := congrArg EdD.R HSD.out
  refine EdD.ext' ?_ e2 e3
  rw [← e1]
  show (⟨_, _, _, _, _, _, (s0.n.U.take K).map OpV.ps, _⟩ : NodeD) = ⟨_, _, _, _, _, _, (s0.n.U.map OpV.ps).take ((s0.n.U.map OpV.ps).length - 1), _⟩
  rw [List.map_take, List.length_map, hK]
  rfl)
 have HS2 := h_ (show (s0.withU (some ⟨g, 0, none⟩) s0.n.uc (s0.n.U.take K)).n.Small from ⟨HSS.out.text, HSS.out.sl, HSS.out.sides, by show (s0.n.U.take K).length ≤ _; have := HSS.out.ul; simp; omega, fun o ho => HSS.out.undo o (List.mem_of_mem_take ho), HSS.out.ml⟩)
 have HEQ := h_ (show ∀ qs, editErr (s0.withU (some ⟨g, 0, none⟩) s0.n.uc (s0.n.U.take K)).d.n qs = editErr n.d qs from fun qs => ec_ (congrArg NodeD.rd HSN.out) (congrArg NodeD.t HSN.out) (congrArg NodeD.S HSN.out) qs)
 clear hul hg hur
 generalize s0.n.U[K] = q at *
 obtain ⟨qA, qc, qp⟩ := q
 dsimp only at c0
 have HCA := h_ hcap
 have hw : wrap64 ((K : Int) + 1 - 1) = K := by unfold wrap64; omega
 have hKc : K ≤ s0.n.uc := by omega
 clear hcap hK hKl
 go_wp2_with fail
 have ht := HTK.out trivial
 refine (xx_ _ WA.heap.size X (s0.withU (some ⟨g, 0, none⟩) s0.n.uc (s0.n.U.take K)) qA qc qp (fun W hb => HTE.out W (ht.2.1.trans hb)) ht.1 (HOF.out.moved fun b hb => ht.2.2 b hb) HOS.out.len HOS.out.text HS2.out (by have := HSL.out.1; show s0.L.length ≤ _; omega) (by have := HSL.out.2; show s0.RL.length ≤ _; omega) (by rw [HEQ.out, ← HLU.out]; exact HER.out)).mono ?_
 rintro r w5 ⟨s3, bA, bc, rfl, k1, k2, k3, k4, k5⟩
 have HK1 := h_ k1
 have HK2 := h_ (show s3.d = undoDD n.d by rw [k2, HD2.out, ← HLU.out]; rfl)
 have hwz : w.heap.size ≤ WA.heap.size := HA.out.b.size
 have HR5 := h_ ((k3.block R HA.out.rz).trans ((bH_ (by show R ≠ X; omega)).trans HB.out.r))
 have HB5 := h_ (show Below w.heap.size w w5 from (HB.out.b.trans (ht.2.1.mono hwz)).trans (k3.mono hwz))
 clear k1 k2 k3 k4 k5 ht x6 f6 xz c0 hgl
 obtain ⟨x0, x1, x2, x3, x4, x5, x6, x7, x8, x9, xz⟩ := f_ HK1.out.busy.blk
 obtain ⟨r0, r1, r2, r3, r4, r5, r6, r7, r8, r9, rz⟩ := f_ HR5.out
 have F0 := tenF HR5.out 0
 have F1 := tenF HR5.out 1
 have F2 := tenF HR5.out 2
 have F3 := tenF HR5.out 3
 have F4 := tenF HR5.out 4
 have F5 := tenF HR5.out 5
 have F6 := tenF HR5.out 6
 have F7 := tenF HR5.out 7
 have F8 := tenF HR5.out 8
 have F9 := tenF HR5.out 9
 have hRX' : ¬ R = X := by omega
 have hXR : ¬ X = R := by omega
 go_wp2_with fail
 have hq := turnFin (w := w) (wr := w5) (R := R) (EditAt.held cn_ HK1.out) HR5.out HA.out.rz (by have := HA.out.hr; omega) HB5.out
 refine nk_ ?_
 intro W9 hW9
 have hW9 := hW9.trans (show _ = ((((((((((w5.setCell ⟨R, 0, none⟩ (.int .i64 s3.n.me)).setCell ⟨R, 1, none⟩ (.int .i64 s3.n.ep)).setCell ⟨R, 2, none⟩ (.int .i64 s3.n.up)).setCell ⟨R, 3, none⟩ (.bool s3.n.rd)).setCell ⟨R, 4, none⟩ (.string s3.n.t)).setCell ⟨R, 5, none⟩ (.slice s3.n.sA s3.n.S.length s3.n.sc)).setCell ⟨R, 6, none⟩ (.slice s3.n.uA s3.n.U.length s3.n.uc)).setCell ⟨R, 7, none⟩ (.slice s3.n.mA s3.n.M.length s3.n.mc)).setCell ⟨R, 8, none⟩ (.slice s3.A s3.L.length s3.c)).setCell ⟨R, 9, none⟩ (.slice s3.RA s3.RL.length s3.rc)) by first | rfl | simp | (congr 1; done))
 rw [← hW9] at hq
 clear hW9 r0 r1 r2 r3 r4 r5 r6 r7 r8 r9 rz F0 F1 F2 F3 F4 F5 F6 F7 F8 F9 x0 x1 x2 x3 x4 x5 x6 x7 x8 x9 xz
 obtain ⟨j1, j2, j3, j4, j5⟩ := hq
 obtain ⟨r0, r1, r2, r3, r4, r5, r6, r7, r8, r9, rz⟩ := f_ j1
 refine bodyPost_ret (v := .tuple #[.agg #[.int .i64 s3.n.me, .int .i64 s3.n.ep, .int .i64 s3.n.up, .bool s3.n.rd, .string s3.n.t, .slice s3.n.sA s3.n.S.length s3.n.sc, .slice s3.n.uA s3.n.U.length s3.n.uc, .slice s3.n.mA s3.n.M.length s3.n.mc, .slice s3.A s3.L.length s3.c, .slice s3.RA s3.RL.length s3.rc], .int .i64 0]) (by simp [results, Tryz.results12, go_sem, r0, r1, r2, r3, r4, r5, r6, r7, r8, r9]) rfl ?_
 exact ⟨s3, rfl, HK2.out, j2, j3, j4, j5⟩
theorem of_ (w : World) (T : Option Addr) (N Nc : Nat) (zs : List Int) (n : NodeV) (hT : Tabs w) (hi : n.In w) (hm : n.Small) (hz : Sl (· < w.heap.size) w 1 T N (zs.map (Value.int .i64))) (hN : N ≤ 9223372036854775807) (er : Int) (h0 : nodeFault zs n = er) (hne : (er == 0) = false) : Calls Tryz.prog 13 #[.slice T N Nc, n.val] w (RetTurnR w zeroD er) := by
 have H1 := h_ (fun W hT (hi : n.In W) hz => dj_ W T N Nc zs n hT hi hm hz hN)
 rw [h0] at H1
 have HT := h_ hT
 have HZ := h_ hz
 have HI := h_ hi
 clear hT hz hi hm h0
 have HA := h_ (TickAt.new w n.cv)
 obtain ⟨WA, hWA⟩ : ∃ WA, WA = ((w.alloc (.cells n.cv 28)).alloc (.cells z_ 35)) := ⟨_, rfl⟩
 rw [← hWA] at HA
 have HW := h_ hWA.symm
 obtain ⟨R, hR⟩ : ∃ R, R = w.heap.size + 1 := ⟨_, rfl⟩
 rw [← hR] at HA
 have HRE := h_ hR.symm
 clear hWA hR
 obtain ⟨n0, n1, n2, n3, n4, n5, n6, n7, nz⟩ := l_ HA.out.nd
 go_enter Tryz.func13, Tryz.ntmps13
 go_wp2_with fail
 rw [HW.out, HRE.out]
 clear n0 n1 n2 n3 n4 n5 n6 n7 nz
 refine (H1.out _ (HT.out.later HA.out.b) (HI.out.later HA.out.b) (Sl.later HZ.out HA.out.b)).mono ?_
 rintro r w1 ⟨rfl, hb1⟩
 have HB := h_ (HA.out.later hb1)
 have HRB := h_ (HA.out.later hb1).r
 have HBB := h_ (HA.out.later hb1).b
 clear hb1
 have hne' : (er != 0) = true := by simp [bne, hne]
 obtain ⟨n0, n1, n2, n3, n4, n5, n6, n7, nz⟩ := l_ HB.out.nd
 obtain ⟨r0, r1, r2, r3, r4, r5, r6, r7, r8, r9, rz⟩ := f_ HRB.out
 have F0 := tenF HRB.out 0
 have F1 := tenF HRB.out 1
 have F2 := tenF HRB.out 2
 have F3 := tenF HRB.out 3
 have F4 := tenF HRB.out 4
 have F5 := tenF HRB.out 5
 have F6 := tenF HRB.out 6
 have F7 := tenF HRB.out 7
 have F8 := tenF HRB.out 8
 have F9 := tenF HRB.out 9
 go_wp2_with fail
 refine n_ (fun H => H.heap[R]? = some (.cells z_ 35 (0, 0)) ∧ Below w.heap.size w H) ⟨cu_ HRB.out _ _ _ _ _ _ _ _ _ _, ?_⟩ ?_
 · have hwR : w.heap.size ≤ R := by have := HA.out.hr; omega
   repeat (refine bSet ?_ (by exact hwR) _)
   exact HBB.out
 clear r0 r1 r2 r3 r4 r5 r6 r7 r8 r9 rz F0 F1 F2 F3 F4 F5 F6 F7 F8 F9
 rintro H ⟨j1, j3⟩
 obtain ⟨r0, r1, r2, r3, r4, r5, r6, r7, r8, r9, rz⟩ := f_ j1
 refine bodyPost_ret (v := .tuple #[.agg #[.int .i64 0, .int .i64 0, .int .i64 0, .bool false, .string ⟨#[]⟩, .slice none 0 0, .slice none 0 0, .slice none 0 0, .slice none 0 0, .slice none 0 0], .int .i64 er]) (by simp [results, Tryz.results13, go_sem, r0, r1, r2, r3, r4, r5, r6, r7, r8, r9]) rfl ?_
 exact ⟨⟨zeroN, none, 0, [], none, 0, []⟩, rfl, rfl, ct_ _ _, RowOwn.nil _ _, RowOwn.nil _ _, j3⟩
theorem pl_ (w : World) (T : Option Addr) (N Nc : Nat) (zs : List Int) (n : NodeV) (hT : Tabs w) (hi : n.In w) (hm : n.Small) (hz : Sl (· < w.heap.size) w 1 T N (zs.map (Value.int .i64))) (hN : N ≤ 9223372036854775807) (h0 : nodeFault zs n = 0) (hrd : n.rd = false) : Calls Tryz.prog 13 #[.slice T N Nc, n.val] w (RetTurnR w zeroD 12) := by
 have H1 := h_ (fun W hT (hi : n.In W) hz => dj_ W T N Nc zs n hT hi hm hz hN)
 rw [h0] at H1
 have HT := h_ hT
 have HZ := h_ hz
 have HI := h_ hi
 have HRD := h_ hrd
 clear hT hz hi hm h0 hrd
 have HA := h_ (TickAt.new w n.cv)
 obtain ⟨WA, hWA⟩ : ∃ WA, WA = ((w.alloc (.cells n.cv 28)).alloc (.cells z_ 35)) := ⟨_, rfl⟩
 rw [← hWA] at HA
 have HW := h_ hWA.symm
 obtain ⟨R, hR⟩ : ∃ R, R = w.heap.size + 1 := ⟨_, rfl⟩
 rw [← hR] at HA
 have HRE := h_ hR.symm
 clear hWA hR
 obtain ⟨n0, n1, n2, n3, n4, n5, n6, n7, nz⟩ := l_ HA.out.nd
 go_enter Tryz.func13, Tryz.ntmps13
 go_wp2_with fail
 rw [HW.out, HRE.out]
 clear n0 n1 n2 n3 n4 n5 n6 n7 nz
 refine (H1.out _ (HT.out.later HA.out.b) (HI.out.later HA.out.b) (Sl.later HZ.out HA.out.b)).mono ?_
 rintro r w1 ⟨rfl, hb1⟩
 have HB := h_ (HA.out.later hb1)
 have HRB := h_ (HA.out.later hb1).r
 have HBB := h_ (HA.out.later hb1).b
 clear hb1
 obtain ⟨n0, n1, n2, n3, n4, n5, n6, n7, nz⟩ := l_ HB.out.nd
 rw [HRD.out] at n3
 obtain ⟨r0, r1, r2, r3, r4, r5, r6, r7, r8, r9, rz⟩ := f_ HRB.out
 have F0 := tenF HRB.out 0
 have F1 := tenF HRB.out 1
 have F2 := tenF HRB.out 2
 have F3 := tenF HRB.out 3
 have F4 := tenF HRB.out 4
 have F5 := tenF HRB.out 5
 have F6 := tenF HRB.out 6
 have F7 := tenF HRB.out 7
 have F8 := tenF HRB.out 8
 have F9 := tenF HRB.out 9
 go_wp2_with fail
 refine n_ (fun H => H.heap[R]? = some (.cells z_ 35 (0, 0)) ∧ Below w.heap.size w H) ⟨cu_ HRB.out _ _ _ _ _ _ _ _ _ _, ?_⟩ ?_
 · have hwR : w.heap.size ≤ R := by have := HA.out.hr; omega
   repeat (refine bSet ?_ (by exact hwR) _)
   exact HBB.out
 clear r0 r1 r2 r3 r4 r5 r6 r7 r8 r9 rz F0 F1 F2 F3 F4 F5 F6 F7 F8 F9
 rintro H ⟨j1, j3⟩
 obtain ⟨r0, r1, r2, r3, r4, r5, r6, r7, r8, r9, rz⟩ := f_ j1
 refine bodyPost_ret (v := .tuple #[.agg #[.int .i64 0, .int .i64 0, .int .i64 0, .bool false, .string ⟨#[]⟩, .slice none 0 0, .slice none 0 0, .slice none 0 0, .slice none 0 0, .slice none 0 0], .int .i64 12]) (by simp [results, Tryz.results13, go_sem, r0, r1, r2, r3, r4, r5, r6, r7, r8, r9]) rfl ?_
 exact ⟨⟨zeroN, none, 0, [], none, 0, []⟩, rfl, rfl, ct_ _ _, RowOwn.nil _ _, RowOwn.nil _ _, j3⟩
theorem pm_ (w : World) (T : Option Addr) (N Nc : Nat) (zs : List Int) (n : NodeV) (hT : Tabs w) (hi : n.In w) (hm : n.Small) (hz : Sl (· < w.heap.size) w 1 T N (zs.map (Value.int .i64))) (hN : N ≤ 9223372036854775807) (h0 : nodeFault zs n = 0) (hrd : n.rd = true) (hU : n.U.length = 0) : Calls Tryz.prog 13 #[.slice T N Nc, n.val] w (RetTurnR w zeroD 6) := by
 have H1 := h_ (fun W hT (hi : n.In W) hz => dj_ W T N Nc zs n hT hi hm hz hN)
 rw [h0] at H1
 have HT := h_ hT
 have HZ := h_ hz
 have HI := h_ hi
 have HRD := h_ hrd
 have HUL := h_ hU
 clear hT hz hi hm h0 hrd hU
 have HA := h_ (TickAt.new w n.cv)
 obtain ⟨WA, hWA⟩ : ∃ WA, WA = ((w.alloc (.cells n.cv 28)).alloc (.cells z_ 35)) := ⟨_, rfl⟩
 rw [← hWA] at HA
 have HW := h_ hWA.symm
 obtain ⟨R, hR⟩ : ∃ R, R = w.heap.size + 1 := ⟨_, rfl⟩
 rw [← hR] at HA
 have HRE := h_ hR.symm
 clear hWA hR
 obtain ⟨n0, n1, n2, n3, n4, n5, n6, n7, nz⟩ := l_ HA.out.nd
 go_enter Tryz.func13, Tryz.ntmps13
 go_wp2_with fail
 rw [HW.out, HRE.out]
 clear n0 n1 n2 n3 n4 n5 n6 n7 nz
 refine (H1.out _ (HT.out.later HA.out.b) (HI.out.later HA.out.b) (Sl.later HZ.out HA.out.b)).mono ?_
 rintro r w1 ⟨rfl, hb1⟩
 have HB := h_ (HA.out.later hb1)
 have HRB := h_ (HA.out.later hb1).r
 have HBB := h_ (HA.out.later hb1).b
 clear hb1
 obtain ⟨n0, n1, n2, n3, n4, n5, n6, n7, nz⟩ := l_ HB.out.nd
 rw [HRD.out] at n3
 rw [HUL.out] at n6
 obtain ⟨r0, r1, r2, r3, r4, r5, r6, r7, r8, r9, rz⟩ := f_ HRB.out
 have F0 := tenF HRB.out 0
 have F1 := tenF HRB.out 1
 have F2 := tenF HRB.out 2
 have F3 := tenF HRB.out 3
 have F4 := tenF HRB.out 4
 have F5 := tenF HRB.out 5
 have F6 := tenF HRB.out 6
 have F7 := tenF HRB.out 7
 have F8 := tenF HRB.out 8
 have F9 := tenF HRB.out 9
 go_wp2_with fail
 refine n_ (fun H => H.heap[R]? = some (.cells z_ 35 (0, 0)) ∧ Below w.heap.size w H) ⟨cu_ HRB.out _ _ _ _ _ _ _ _ _ _, ?_⟩ ?_
 · have hwR : w.heap.size ≤ R := by have := HA.out.hr; omega
   repeat (refine bSet ?_ (by exact hwR) _)
   exact HBB.out
 clear r0 r1 r2 r3 r4 r5 r6 r7 r8 r9 rz F0 F1 F2 F3 F4 F5 F6 F7 F8 F9
 rintro H ⟨j1, j3⟩
 obtain ⟨r0, r1, r2, r3, r4, r5, r6, r7, r8, r9, rz⟩ := f_ j1
 refine bodyPost_ret (v := .tuple #[.agg #[.int .i64 0, .int .i64 0, .int .i64 0, .bool false, .string ⟨#[]⟩, .slice none 0 0, .slice none 0 0, .slice none 0 0, .slice none 0 0, .slice none 0 0], .int .i64 6]) (by simp [results, Tryz.results13, go_sem, r0, r1, r2, r3, r4, r5, r6, r7, r8, r9]) rfl ?_
 exact ⟨⟨zeroN, none, 0, [], none, 0, []⟩, rfl, rfl, ct_ _ _, RowOwn.nil _ _, RowOwn.nil _ _, j3⟩
theorem tg_ (w : World) (T : Option Addr) (N Nc : Nat) (zs : List Int) (n : NodeV) (hT : Tabs w) (hi : n.In w) (hm : n.Small) (hz : Sl (· < w.heap.size) w 1 T N (zs.map (Value.int .i64))) (hN : N ≤ 9223372036854775807) (hcU : n.U.length ≤ n.uc) (h0 : nodeFault zs n = 0) (hrd : n.rd = true) (hU : 0 < n.U.length) (er : Int) (hE : editErr n.d (lastU n.d) = er) (hne : er ≠ 0) : Calls Tryz.prog 13 #[.slice T N Nc, n.val] w (RetTurnR w zeroD er) := by
 have HT := h_ hT
 have HZ := h_ hz
 have HI := h_ hi
 have HM := h_ hm
 have H1 := h_ (fun W hT (hi : n.In W) hz => dj_ W T N Nc zs n hT hi hm hz hN)
 rw [h0] at H1
 have HCP := h_ (fun W (hi : n.In W) => gt_ W n hi hm)
 have HRD := h_ hrd
 have HUP := h_ hU
 have HCU := h_ hcU
 have HU12 := h_ (show n.U.length ≤ 12 from (dr_ h0).2.1.2.1)
 have HER := h_ hE
 have hne' : (er != 0) = true := by simpa using hne
 have HNE := h_ hne
 clear hT hz hi hm h0 hrd hU hE hne hcU
 have HA := h_ (TickAt.new w n.cv)
 obtain ⟨WA, hWA⟩ : ∃ WA, WA = ((w.alloc (.cells n.cv 28)).alloc (.cells z_ 35)) := ⟨_, rfl⟩
 rw [← hWA] at HA
 have HW := h_ hWA.symm
 obtain ⟨R, hR⟩ : ∃ R, R = w.heap.size + 1 := ⟨_, rfl⟩
 rw [← hR] at HA
 have HRE := h_ hR.symm
 clear hWA hR
 obtain ⟨n0, n1, n2, n3, n4, n5, n6, n7, nz⟩ := l_ HA.out.nd
 go_enter Tryz.func13, Tryz.ntmps13
 go_wp2_with fail
 rw [HW.out, HRE.out]
 clear n0 n1 n2 n3 n4 n5 n6 n7 nz
 refine (H1.out _ (HT.out.later HA.out.b) (HI.out.later HA.out.b) (Sl.later HZ.out HA.out.b)).mono ?_
 rintro r w0 ⟨rfl, hb0⟩
 have HB0 := h_ (HA.out.later hb0)
 have hz0 := hb0.size
 clear hb0
 obtain ⟨n0, n1, n2, n3, n4, n5, n6, n7, nz⟩ := l_ HB0.out.nd
 have n3' := n3
 rw [HRD.out] at n3
 obtain ⟨K, hK⟩ : ∃ K, n.U.length = K + 1 := ⟨n.U.length - 1, by have := HUP.out; omega⟩
 have hKl : K < n.U.length := by omega
 have hw : wrap64 ((n.U.length : Int) - 1) = K := by have := HU12.out; unfold wrap64; omega
 have hK0 : decide ((K : Int) < 0) = false := by simp
 have HKE := h_ hK
 have HKL := h_ hKl
 clear hK hKl
 go_wp2_with fail
 rw [hw]
 rw [show (Value.agg #[.int .i64 n.me, .int .i64 n.ep, .int .i64 n.up, .bool true, .string n.t, .slice n.sA n.S.length n.sc, .slice n.uA n.U.length n.uc, .slice n.mA n.M.length n.mc]) = n.val by rw [← HRD.out]]
 refine (HCP.out _ (HI.out.later HB0.out.b)).mono ?_
 rintro r w2 ⟨n', rfl, hd, hfree, hb2⟩
 have HC0 := h_ (HB0.out.later hb2)
 clear n0 n1 n2 n3 n3' n4 n5 n6 n7 nz hw
 obtain ⟨w1, hw1⟩ : ∃ w1, w1 = w2.alloc (.cells #[.int .i64 n'.me, .int .i64 n'.ep, .int .i64 n'.up, .bool n'.rd, .string n'.t, .slice n'.sA n'.S.length n'.sc, .slice n'.uA n'.U.length n'.uc, .slice n'.mA n'.M.length n'.mc, .slice none 0 0, .slice none 0 0] 35) := ⟨_, rfl⟩
 obtain ⟨X, hX9⟩ : ∃ X, X = w2.heap.size := ⟨_, rfl⟩
 have hb1 : Below w2.heap.size w2 w1 := by rw [hw1]; exact bA_
 have hx : w1.heap[X]? = some (.cells (turnCells n' (.slice none 0 0) (.slice none 0 0)) 35 (0, 0)) := by rw [hw1, hX9]; exact World.alloc_heap_new _ _
 have hX : WA.heap.size ≤ X := by have h2 := hb2.size; omega
 have HB := h_ (HC0.out.later hb1)
 obtain ⟨s0, hs0⟩ : ∃ s0 : EdV, s0 = ⟨n', none, 0, [], none, 0, []⟩ := ⟨_, rfl⟩
 have HE := h_ (show EdAt 35 w1 WA.heap.size X s0 by rw [hs0]; exact EditAt.new (hfree.low hz0) hX9 hX hb1 hx)
 have HSN := h_ (show s0.n.d = n.d by rw [hs0]; exact hd)
 have HSS := h_ (show s0.n.Small by rw [hs0]; exact NodeV.Small.of_d hd HM.out)
 have HSL := h_ (show s0.L = [] ∧ s0.RL = [] by rw [hs0]; exact ⟨rfl, rfl⟩)
 have HTE := h_ (show ∀ W, Below WA.heap.size w1 W → Tabs W from fun W hb => HT.out.later (HB.out.b.trans (hb.mono HA.out.b.size)))
 have hRX : R < X := by have := HA.out.rz; omega
 obtain ⟨b, o, hA, hbs, hc0, hop⟩ := HI.out.undo.at_ HKL.out
 have HOP := h_ hop
 have HOS := h_ (HM.out.undo _ (List.getElem_mem HKL.out))
 have HLU := h_ (show lastU n.d = n.U[K].ps by
  rw [fm_ (by have := HKL.out; omega)]
  congr 2
  have := HKE.out
  omega)
 have HTI := h_ (show OpsIn w n.uA (n.U.take K) from ⟨(by
  have h9 := HI.out.undo.row
  refine ⟨by simp, fun hn => ?_⟩
  obtain ⟨b, o, e, hb, hc⟩ := h9.2 (by have := HKL.out; omega)
  refine ⟨b, o, e, hb, fun j u hu => hc j u ?_⟩
  rw [List.map_take, List.getElem?_take] at hu
  split at hu
  · exact hu
  · cases hu), fun q hq => HI.out.undo.each q (List.mem_of_mem_take hq)⟩)
 have HOT := h_ (show ∀ q ∈ n.U.take K, q.ps.length ≤ 1048576 from fun q hq => (HM.out.undo q (List.mem_of_mem_take hq)).len)
 have HTL := h_ (show (n.U.take K).length = K by have := HKL.out; simp; omega)
 obtain ⟨n0, n1, n2, n3, n4, n5, n6, n7, nz⟩ := l_ HC0.out.nd
 rw [hA, HKE.out] at n6
 have hKc : K ≤ n.uc := by have := HCU.out; have := HKL.out; omega
 have hK12 : K < 12 := by have := HU12.out; have := HKL.out; omega
 have hw9 : wrap64 ((K : Int) + 1 - 1) = K := by unfold wrap64; omega
 have HAE := h_ hA
 have hwX : w.heap.size < X := by have := HC0.out.hr; omega
 have HCC := h_ (show w1.cell? ⟨b, o + K, none⟩ = some (.slice n.U[K].A n.U[K].ps.length n.U[K].c) from (World.cell?_of_block (a := ⟨b, o + K, none⟩) (HB.out.b.block b hbs)).trans hc0)
 generalize n.U[K] = q at *
 obtain ⟨qA, qc, qp⟩ := q
 have HW1 := h_ hw1.symm
 have HX9 := h_ hX9.symm
 clear hd hx hfree hb2 hb1 hs0 hA hc0 hop hw1 hX9
 go_wp2_with fail
 rw [HW1.out, HX9.out]
 have h9 := ia_ w1 n.uA n.uc (n.U.take K) (HTI.out.later HB.out.b) (by rw [HTL.out]; omega) HOT.out
 rw [HTL.out, HAE.out] at h9
 refine h9.mono ?_
 clear h9 n0 n1 n2 n3 n4 n5 n6 n7 nz
 rintro r w4 ⟨A9, c9, L9, rfl, hps9, ho9, hb9⟩
 have hXW : X < w1.heap.size := HE.out.busy.lt
 have hX4 := (hb9.block X hXW).trans HE.out.busy.blk
 have HB4 := h_ (HB.out.later hb9)
 have hwz : w.heap.size ≤ WA.heap.size := HA.out.b.size
 have HQ := h_ (show EdAt 35 (w4.setCell ⟨X, 6, none⟩ (.slice A9 L9.length c9)) WA.heap.size X (s0.withU A9 c9 L9) from EditAt.undoNew cm_ HE.out hb9 ho9 (by simp [World.setCell]) (fun b hb => bH_ hb) (e_ 6 (.slice A9 L9.length c9) hX4))
 have HBQ := h_ (show Below w.heap.size w (w4.setCell ⟨X, 6, none⟩ (.slice A9 L9.length c9)) from bSet (bThen HB.out.b hb9) (p := ⟨X, 6, none⟩) (by show w.heap.size ≤ X; omega) _)
 have HRQ := h_ ((Below.heap_setCell w4 ⟨X, 6, none⟩ (.slice A9 L9.length c9) R (by show R ≠ X; omega)).trans HB4.out.r)
 have HOQ := h_ (HOP.out.moved (S' := Off (w4.setCell ⟨X, 6, none⟩ (.slice A9 L9.length c9)) X (s0.withU A9 c9 L9)) (w' := w4.setCell ⟨X, 6, none⟩ (.slice A9 L9.length c9)) fun b hb => ⟨HQ.out.off (Nat.lt_of_lt_of_le hb hwz), HBQ.out.block b hb⟩)
 have hl9 : L9.length = K := by
  have := congrArg List.length hps9
  rw [List.length_map, List.length_map, HTL.out] at this
  exact this
 have HD2 := h_ (show (s0.withU A9 c9 L9).d = preD n.d by
  have e1 := HSN.out
  have e2 := HSL.out.1
  have e3 := HSL.out.2
  refine EdD.ext' ?_ (by show List.map _ s0.L = []; rw [e2]; rfl) (by show List.map _ s0.RL = []; rw [e3]; rfl)
  rw [← e1]
  show (⟨_, _, _, _, _, _, L9.map OpV.ps, _⟩ : NodeD) = ⟨_, _, _, _, _, _, (s0.n.U.map OpV.ps).take ((s0.n.U.map OpV.ps).length - 1), _⟩
  rw [hps9, show s0.n.U.map OpV.ps = n.U.map OpV.ps from congrArg NodeD.U e1, List.length_map, List.map_take, HKE.out]
  rfl)
 have HS2 := h_ (show (s0.withU A9 c9 L9).n.Small from ⟨HSS.out.text, HSS.out.sl, HSS.out.sides, by show L9.length ≤ _; omega, fc_ hps9 (fun q hq => HM.out.undo q (List.mem_of_mem_take hq)), HSS.out.ml⟩)
 have HEQ := h_ (show ∀ qs, editErr (s0.withU A9 c9 L9).d.n qs = editErr n.d qs from fun qs => ec_ (congrArg NodeD.rd HSN.out) (congrArg NodeD.t HSN.out) (congrArg NodeD.S HSN.out) qs)
 have c0 := (World.cell?_of_block (a := ⟨b, o + K, none⟩) (hb9.block b (Nat.lt_of_lt_of_le hbs HB.out.b.size))).trans HCC.out
 obtain ⟨n0, n1, n2, n3, n4, n5, n6, n7, nz⟩ := l_ HB4.out.nd
 rw [HAE.out, HKE.out] at n6
 obtain ⟨_, _, _, _, _, _, x6, _, _, _, xz⟩ := f_ hX4
 have f6 := tenF hX4 6
 have hn1 : ¬ w.heap.size = X := by omega
 have hn2 : ¬ X = w.heap.size := by omega
 have hn3 : ¬ b = X := by omega
 have hn4 : ¬ X = b := by omega
 have HL9 := h_ hl9
 clear hX4 hps9 ho9 hb9 hl9
 go_wp2_with fail
 refine (vf_ _ WA.heap.size X (s0.withU A9 c9 L9) qA qc qp (fun W hb => HT.out.later (HBQ.out.trans (hb.mono HA.out.b.size))) HQ.out HOQ.out HOS.out.len HOS.out.text HS2.out er (by rw [HEQ.out, ← HLU.out]; exact HER.out) HNE.out).mono ?_
 rintro r w5 ⟨rfl, hb5⟩
 have HRB := h_ ((hb5.block R (by have := HB4.out.rz; simp [World.setCell]; omega)).trans HRQ.out)
 have HBB := h_ (show Below w.heap.size w w5 from bThen HBQ.out hb5)
 clear hb5 n0 n1 n2 n3 n4 n5 n6 n7 nz x6 f6 xz c0
 obtain ⟨r0, r1, r2, r3, r4, r5, r6, r7, r8, r9, rz⟩ := f_ HRB.out
 have F0 := tenF HRB.out 0
 have F1 := tenF HRB.out 1
 have F2 := tenF HRB.out 2
 have F3 := tenF HRB.out 3
 have F4 := tenF HRB.out 4
 have F5 := tenF HRB.out 5
 have F6 := tenF HRB.out 6
 have F7 := tenF HRB.out 7
 have F8 := tenF HRB.out 8
 have F9 := tenF HRB.out 9
 go_wp2_with fail
 refine n_ (fun H => H.heap[R]? = some (.cells z_ 35 (0, 0)) ∧ Below w.heap.size w H) ⟨cu_ HRB.out _ _ _ _ _ _ _ _ _ _, ?_⟩ ?_
 · have hwR : w.heap.size ≤ R := by have := HA.out.hr; omega
   repeat (refine bSet ?_ (by exact hwR) _)
   exact HBB.out
 clear r0 r1 r2 r3 r4 r5 r6 r7 r8 r9 rz F0 F1 F2 F3 F4 F5 F6 F7 F8 F9
 rintro H ⟨j1, j3⟩
 obtain ⟨r0, r1, r2, r3, r4, r5, r6, r7, r8, r9, rz⟩ := f_ j1
 refine bodyPost_ret (v := .tuple #[.agg #[.int .i64 0, .int .i64 0, .int .i64 0, .bool false, .string ⟨#[]⟩, .slice none 0 0, .slice none 0 0, .slice none 0 0, .slice none 0 0, .slice none 0 0], .int .i64 er]) (by simp [results, Tryz.results13, go_sem, r0, r1, r2, r3, r4, r5, r6, r7, r8, r9]) rfl ?_
 exact ⟨⟨zeroN, none, 0, [], none, 0, []⟩, rfl, rfl, ct_ _ _, RowOwn.nil _ _, RowOwn.nil _ _, j3⟩
theorem th_ (w : World) (T : Option Addr) (N Nc : Nat) (zs : List Int) (n : NodeV) (hT : Tabs w) (hi : n.In w) (hm : n.Small) (hz : Sl (· < w.heap.size) w 1 T N (zs.map (Value.int .i64))) (hN : N ≤ 9223372036854775807) (hcU : n.U.length ≤ n.uc) (h0 : nodeFault zs n = 0) (hrd : n.rd = true) (hU : 0 < n.U.length) (hE : editErr n.d (lastU n.d) = 0) : Calls Tryz.prog 13 #[.slice T N Nc, n.val] w (RetTurnR w (undoDD n.d) 0) := by
 have HT := h_ hT
 have HZ := h_ hz
 have HI := h_ hi
 have HM := h_ hm
 have H1 := h_ (fun W hT (hi : n.In W) hz => dj_ W T N Nc zs n hT hi hm hz hN)
 rw [h0] at H1
 have HCP := h_ (fun W (hi : n.In W) => gt_ W n hi hm)
 have HRD := h_ hrd
 have HUP := h_ hU
 have HCU := h_ hcU
 have HU12 := h_ (show n.U.length ≤ 12 from (dr_ h0).2.1.2.1)
 have HER := h_ hE
 clear hT hz hi hm h0 hrd hU hE hcU
 have HA := h_ (TickAt.new w n.cv)
 obtain ⟨WA, hWA⟩ : ∃ WA, WA = ((w.alloc (.cells n.cv 28)).alloc (.cells z_ 35)) := ⟨_, rfl⟩
 rw [← hWA] at HA
 have HW := h_ hWA.symm
 obtain ⟨R, hR⟩ : ∃ R, R = w.heap.size + 1 := ⟨_, rfl⟩
 rw [← hR] at HA
 have HRE := h_ hR.symm
 clear hWA hR
 obtain ⟨n0, n1, n2, n3, n4, n5, n6, n7, nz⟩ := l_ HA.out.nd
 go_enter Tryz.func13, Tryz.ntmps13
 go_wp2_with fail
 rw [HW.out, HRE.out]
 clear n0 n1 n2 n3 n4 n5 n6 n7 nz
 refine (H1.out _ (HT.out.later HA.out.b) (HI.out.later HA.out.b) (Sl.later HZ.out HA.out.b)).mono ?_
 rintro r w0 ⟨rfl, hb0⟩
 have HB0 := h_ (HA.out.later hb0)
 have hz0 := hb0.size
 clear hb0
 obtain ⟨n0, n1, n2, n3, n4, n5, n6, n7, nz⟩ := l_ HB0.out.nd
 have n3' := n3
 rw [HRD.out] at n3
 obtain ⟨K, hK⟩ : ∃ K, n.U.length = K + 1 := ⟨n.U.length - 1, by have := HUP.out; omega⟩
 have hKl : K < n.U.length := by omega
 have hw : wrap64 ((n.U.length : Int) - 1) = K := by have := HU12.out; unfold wrap64; omega
 have hK0 : decide ((K : Int) < 0) = false := by simp
 have HKE := h_ hK
 have HKL := h_ hKl
 clear hK hKl
 go_wp2_with fail
 rw [hw]
 rw [show (Value.agg #[.int .i64 n.me, .int .i64 n.ep, .int .i64 n.up, .bool true, .string n.t, .slice n.sA n.S.length n.sc, .slice n.uA n.U.length n.uc, .slice n.mA n.M.length n.mc]) = n.val by rw [← HRD.out]]
 refine (HCP.out _ (HI.out.later HB0.out.b)).mono ?_
 rintro r w2 ⟨n', rfl, hd, hfree, hb2⟩
 have HC0 := h_ (HB0.out.later hb2)
 clear n0 n1 n2 n3 n3' n4 n5 n6 n7 nz hw
 obtain ⟨w1, hw1⟩ : ∃ w1, w1 = w2.alloc (.cells #[.int .i64 n'.me, .int .i64 n'.ep, .int .i64 n'.up, .bool n'.rd, .string n'.t, .slice n'.sA n'.S.length n'.sc, .slice n'.uA n'.U.length n'.uc, .slice n'.mA n'.M.length n'.mc, .slice none 0 0, .slice none 0 0] 35) := ⟨_, rfl⟩
 obtain ⟨X, hX9⟩ : ∃ X, X = w2.heap.size := ⟨_, rfl⟩
 have hb1 : Below w2.heap.size w2 w1 := by rw [hw1]; exact bA_
 have hx : w1.heap[X]? = some (.cells (turnCells n' (.slice none 0 0) (.slice none 0 0)) 35 (0, 0)) := by rw [hw1, hX9]; exact World.alloc_heap_new _ _
 have hX : WA.heap.size ≤ X := by have h2 := hb2.size; omega
 have HB := h_ (HC0.out.later hb1)
 obtain ⟨s0, hs0⟩ : ∃ s0 : EdV, s0 = ⟨n', none, 0, [], none, 0, []⟩ := ⟨_, rfl⟩
 have HE := h_ (show EdAt 35 w1 WA.heap.size X s0 by rw [hs0]; exact EditAt.new (hfree.low hz0) hX9 hX hb1 hx)
 have HSN := h_ (show s0.n.d = n.d by rw [hs0]; exact hd)
 have HSS := h_ (show s0.n.Small by rw [hs0]; exact NodeV.Small.of_d hd HM.out)
 have HSL := h_ (show s0.L = [] ∧ s0.RL = [] by rw [hs0]; exact ⟨rfl, rfl⟩)
 have HTE := h_ (show ∀ W, Below WA.heap.size w1 W → Tabs W from fun W hb => HT.out.later (HB.out.b.trans (hb.mono HA.out.b.size)))
 have hRX : R < X := by have := HA.out.rz; omega
 obtain ⟨b, o, hA, hbs, hc0, hop⟩ := HI.out.undo.at_ HKL.out
 have HOP := h_ hop
 have HOS := h_ (HM.out.undo _ (List.getElem_mem HKL.out))
 have HLU := h_ (show lastU n.d = n.U[K].ps by
  rw [fm_ (by have := HKL.out; omega)]
  congr 2
  have := HKE.out
  omega)
 have HTI := h_ (show OpsIn w n.uA (n.U.take K) from ⟨(by
  have h9 := HI.out.undo.row
  refine ⟨by simp, fun hn => ?_⟩
  obtain ⟨b, o, e, hb, hc⟩ := h9.2 (by have := HKL.out; omega)
  refine ⟨b, o, e, hb, fun j u hu => hc j u ?_⟩
  rw [List.map_take, List.getElem?_take] at hu
  split at hu
  · exact hu
  · cases hu), fun q hq => HI.out.undo.each q (List.mem_of_mem_take hq)⟩)
 have HOT := h_ (show ∀ q ∈ n.U.take K, q.ps.length ≤ 1048576 from fun q hq => (HM.out.undo q (List.mem_of_mem_take hq)).len)
 have HTL := h_ (show (n.U.take K).length = K by have := HKL.out; simp; omega)
 obtain ⟨n0, n1, n2, n3, n4, n5, n6, n7, nz⟩ := l_ HC0.out.nd
 rw [hA, HKE.out] at n6
 have hKc : K ≤ n.uc := by have := HCU.out; have := HKL.out; omega
 have hK12 : K < 12 := by have := HU12.out; have := HKL.out; omega
 have hw9 : wrap64 ((K : Int) + 1 - 1) = K := by unfold wrap64; omega
 have HAE := h_ hA
 have hwX : w.heap.size < X := by have := HC0.out.hr; omega
 have HCC := h_ (show w1.cell? ⟨b, o + K, none⟩ = some (.slice n.U[K].A n.U[K].ps.length n.U[K].c) from (World.cell?_of_block (a := ⟨b, o + K, none⟩) (HB.out.b.block b hbs)).trans hc0)
 generalize n.U[K] = q at *
 obtain ⟨qA, qc, qp⟩ := q
 have HW1 := h_ hw1.symm
 have HX9 := h_ hX9.symm
 clear hd hx hfree hb2 hb1 hs0 hA hc0 hop hw1 hX9
 go_wp2_with fail
 rw [HW1.out, HX9.out]
 have h9 := ia_ w1 n.uA n.uc (n.U.take K) (HTI.out.later HB.out.b) (by rw [HTL.out]; omega) HOT.out
 rw [HTL.out, HAE.out] at h9
 refine h9.mono ?_
 clear h9 n0 n1 n2 n3 n4 n5 n6 n7 nz
 rintro r w4 ⟨A9, c9, L9, rfl, hps9, ho9, hb9⟩
 have hXW : X < w1.heap.size := HE.out.busy.lt
 have hX4 := (hb9.block X hXW).trans HE.out.busy.blk
 have HB4 := h_ (HB.out.later hb9)
 have hwz : w.heap.size ≤ WA.heap.size := HA.out.b.size
 have HQ := h_ (show EdAt 35 (w4.setCell ⟨X, 6, none⟩ (.slice A9 L9.length c9)) WA.heap.size X (s0.withU A9 c9 L9) from EditAt.undoNew cm_ HE.out hb9 ho9 (by simp [World.setCell]) (fun b hb => bH_ hb) (e_ 6 (.slice A9 L9.length c9) hX4))
 have HBQ := h_ (show Below w.heap.size w (w4.setCell ⟨X, 6, none⟩ (.slice A9 L9.length c9)) from bSet (bThen HB.out.b hb9) (p := ⟨X, 6, none⟩) (by show w.heap.size ≤ X; omega) _)
 have HRQ := h_ ((Below.heap_setCell w4 ⟨X, 6, none⟩ (.slice A9 L9.length c9) R (by show R ≠ X; omega)).trans HB4.out.r)
 have HOQ := h_ (HOP.out.moved (S' := Off (w4.setCell ⟨X, 6, none⟩ (.slice A9 L9.length c9)) X (s0.withU A9 c9 L9)) (w' := w4.setCell ⟨X, 6, none⟩ (.slice A9 L9.length c9)) fun b hb => ⟨HQ.out.off (Nat.lt_of_lt_of_le hb hwz), HBQ.out.block b hb⟩)
 have hl9 : L9.length = K := by
  have := congrArg List.length hps9
  rw [List.length_map, List.length_map, HTL.out] at this
  exact this
 have HD2 := h_ (show (s0.withU A9 c9 L9).d = preD n.d by
  have e1 := HSN.out
  have e2 := HSL.out.1
  have e3 := HSL.out.2
  refine EdD.ext' ?_ (by show List.map _ s0.L = []; rw [e2]; rfl) (by show List.map _ s0.RL = []; rw [e3]; rfl)
  rw [← e1]
  show (⟨_, _, _, _, _, _, L9.map OpV.ps, _⟩ : NodeD) = ⟨_, _, _, _, _, _, (s0.n.U.map OpV.ps).take ((s0.n.U.map OpV.ps).length - 1), _⟩
  rw [hps9, show s0.n.U.map OpV.ps = n.U.map OpV.ps from congrArg NodeD.U e1, List.length_map, List.map_take, HKE.out]
  rfl)
 have HS2 := h_ (show (s0.withU A9 c9 L9).n.Small from ⟨HSS.out.text, HSS.out.sl, HSS.out.sides, by show L9.length ≤ _; omega, fc_ hps9 (fun q hq => HM.out.undo q (List.mem_of_mem_take hq)), HSS.out.ml⟩)
 have HEQ := h_ (show ∀ qs, editErr (s0.withU A9 c9 L9).d.n qs = editErr n.d qs from fun qs => ec_ (congrArg NodeD.rd HSN.out) (congrArg NodeD.t HSN.out) (congrArg NodeD.S HSN.out) qs)
 have c0 := (World.cell?_of_block (a := ⟨b, o + K, none⟩) (hb9.block b (Nat.lt_of_lt_of_le hbs HB.out.b.size))).trans HCC.out
 obtain ⟨n0, n1, n2, n3, n4, n5, n6, n7, nz⟩ := l_ HB4.out.nd
 rw [HAE.out, HKE.out] at n6
 obtain ⟨_, _, _, _, _, _, x6, _, _, _, xz⟩ := f_ hX4
 have f6 := tenF hX4 6
 have hn1 : ¬ w.heap.size = X := by omega
 have hn2 : ¬ X = w.heap.size := by omega
 have hn3 : ¬ b = X := by omega
 have hn4 : ¬ X = b := by omega
 have HL9 := h_ hl9
 clear hX4 hps9 ho9 hb9 hl9
 go_wp2_with fail
 refine (tq_ _ WA.heap.size X (s0.withU A9 c9 L9) qA qc qp (fun W hb => HT.out.later (HBQ.out.trans (hb.mono HA.out.b.size))) HQ.out HOQ.out HOS.out.len HOS.out.text HS2.out (by have := HSL.out.1; show s0.L.length ≤ _; rw [this]; simp) (by have := HSL.out.2; show s0.RL.length ≤ _; rw [this]; simp) (by rw [HEQ.out, ← HLU.out]; exact HER.out)).mono ?_
 rintro r w5 ⟨s3, bA, bc, rfl, k1, k2, k3, k4, k5⟩
 have HK1 := h_ k1
 have HK2 := h_ (show s3.d = undoDD n.d by rw [k2, HD2.out, ← HLU.out]; rfl)
 have HR5 := h_ ((k3.block R HA.out.rz).trans HRQ.out)
 have HB5 := h_ (show Below w.heap.size w w5 from HBQ.out.trans (k3.mono hwz))
 clear k1 k2 k3 k4 k5 n0 n1 n2 n3 n4 n5 n6 n7 nz x6 f6 xz c0
 obtain ⟨x0, x1, x2, x3, x4, x5, x6, x7, x8, x9, xz⟩ := f_ HK1.out.busy.blk
 obtain ⟨r0, r1, r2, r3, r4, r5, r6, r7, r8, r9, rz⟩ := f_ HR5.out
 have F0 := tenF HR5.out 0
 have F1 := tenF HR5.out 1
 have F2 := tenF HR5.out 2
 have F3 := tenF HR5.out 3
 have F4 := tenF HR5.out 4
 have F5 := tenF HR5.out 5
 have F6 := tenF HR5.out 6
 have F7 := tenF HR5.out 7
 have F8 := tenF HR5.out 8
 have F9 := tenF HR5.out 9
 have hRX' : ¬ R = X := by omega
 have hXR : ¬ X = R := by omega
 go_wp2_with fail
 have hq := turnFin (w := w) (wr := w5) (R := R) (EditAt.held cm_ HK1.out) HR5.out HA.out.rz (by have := HA.out.hr; omega) HB5.out
 refine nk_ ?_
 intro W9 hW9
 have hW9 := hW9.trans (show _ = ((((((((((w5.setCell ⟨R, 0, none⟩ (.int .i64 s3.n.me)).setCell ⟨R, 1, none⟩ (.int .i64 s3.n.ep)).setCell ⟨R, 2, none⟩ (.int .i64 s3.n.up)).setCell ⟨R, 3, none⟩ (.bool s3.n.rd)).setCell ⟨R, 4, none⟩ (.string s3.n.t)).setCell ⟨R, 5, none⟩ (.slice s3.n.sA s3.n.S.length s3.n.sc)).setCell ⟨R, 6, none⟩ (.slice s3.n.uA s3.n.U.length s3.n.uc)).setCell ⟨R, 7, none⟩ (.slice s3.n.mA s3.n.M.length s3.n.mc)).setCell ⟨R, 8, none⟩ (.slice s3.A s3.L.length s3.c)).setCell ⟨R, 9, none⟩ (.slice s3.RA s3.RL.length s3.rc)) by first | rfl | simp | (congr 1; done))
 rw [← hW9] at hq
 clear hW9 r0 r1 r2 r3 r4 r5 r6 r7 r8 r9 rz F0 F1 F2 F3 F4 F5 F6 F7 F8 F9 x0 x1 x2 x3 x4 x5 x6 x7 x8 x9 xz
 obtain ⟨j1, j2, j3, j4, j5⟩ := hq
 obtain ⟨r0, r1, r2, r3, r4, r5, r6, r7, r8, r9, rz⟩ := f_ j1
 refine bodyPost_ret (v := .tuple #[.agg #[.int .i64 s3.n.me, .int .i64 s3.n.ep, .int .i64 s3.n.up, .bool s3.n.rd, .string s3.n.t, .slice s3.n.sA s3.n.S.length s3.n.sc, .slice s3.n.uA s3.n.U.length s3.n.uc, .slice s3.n.mA s3.n.M.length s3.n.mc, .slice s3.A s3.L.length s3.c, .slice s3.RA s3.RL.length s3.rc], .int .i64 0]) (by simp [results, Tryz.results13, go_sem, r0, r1, r2, r3, r4, r5, r6, r7, r8, r9]) rfl ?_
 exact ⟨s3, rfl, HK2.out, j2, j3, j4, j5⟩
open Classical in
noncomputable def UE (zs : List Int) (n : NodeV) : Int := if nodeFault zs n ≠ 0 then nodeFault zs n else undoErr n.d
open Classical in
noncomputable def UD (zs : List Int) (n : NodeV) : EdD := if nodeFault zs n = 0 ∧ undoErr n.d = 0 then undoDD n.d else zeroD
theorem UE_d {zs : List Int} {n n' : NodeV} (hd : n'.d = n.d) : UE zs n' = UE zs n := by
 unfold UE
 rw [jg_ hd, hd]
theorem UD_d {zs : List Int} {n n' : NodeV} (hd : n'.d = n.d) : UD zs n' = UD zs n := by
 unfold UD
 rw [jg_ hd, hd]
section
variable (w : World) (T : Option Addr) (N Nc : Nat) (zs : List Int) (n : NodeV) (hT : Tabs w) (hi : n.In w) (hm : n.Small) (hz : Sl (· < w.heap.size) w 1 T N (zs.map (Value.int .i64))) (hN : N ≤ 9223372036854775807)
include hT hi hm hz hN
theorem yx_ : Calls Tryz.prog 12 #[.slice T N Nc, n.val] w (RetTurnS w (UD zs n) (UE zs n)) := by
 unfold UD UE
 by_cases h0 : nodeFault zs n = 0
 · rw [if_neg (not_not_intro h0)]
   rcases mc_ (n := n.d) rfl with ⟨h1, he⟩ | ⟨h1, h2, he⟩ | ⟨h1, h2, he⟩
   · rw [he, if_neg (fun q => absurd q.2 (by decide))]
     exact (te_ w T N Nc zs n hT hi hm hz hN h0 h1).mono fun _ _ h => h.s
   · rw [he, if_neg (fun q => absurd q.2 (by decide))]
     exact (tf_ w T N Nc zs n hT hi hm hz hN h0 h1 (by simpa [NodeV.d] using h2)).mono fun _ _ h => h.s
   · have h2' : 0 < n.U.length := by simpa [NodeV.d] using h2
     by_cases h3 : undoErr n.d = 0
     · rw [if_pos ⟨h0, h3⟩, h3]
       exact (xo_ w T N Nc zs n hT hi hm hz hN h0 h1 h2' (he.trans h3)).mono fun _ _ h => h.s
     · rw [if_neg (fun q => h3 q.2)]
       exact (xn_ w T N Nc zs n hT hi hm hz hN h0 h1 h2' _ he h3).mono fun _ _ h => h.s
 · rw [if_pos h0, if_neg (fun q => h0 q.1)]
   exact (rp_ w T N Nc zs n hT hi hm hz hN _ rfl (by simpa using h0)).mono fun _ _ h => h.s
theorem us_ (hcU : n.U.length ≤ n.uc) : Calls Tryz.prog 13 #[.slice T N Nc, n.val] w (RetTurnS w (UD zs n) (UE zs n)) := by
 unfold UD UE
 by_cases h0 : nodeFault zs n = 0
 · rw [if_neg (not_not_intro h0)]
   rcases mc_ (n := n.d) rfl with ⟨h1, he⟩ | ⟨h1, h2, he⟩ | ⟨h1, h2, he⟩
   · rw [he, if_neg (fun q => absurd q.2 (by decide))]
     exact (pl_ w T N Nc zs n hT hi hm hz hN h0 h1).mono fun _ _ h => h.s
   · rw [he, if_neg (fun q => absurd q.2 (by decide))]
     exact (pm_ w T N Nc zs n hT hi hm hz hN h0 h1 (by simpa [NodeV.d] using h2)).mono fun _ _ h => h.s
   · have h2' : 0 < n.U.length := by simpa [NodeV.d] using h2
     by_cases h3 : undoErr n.d = 0
     · rw [if_pos ⟨h0, h3⟩, h3]
       exact (th_ w T N Nc zs n hT hi hm hz hN hcU h0 h1 h2' (he.trans h3)).mono fun _ _ h => h.s
     · rw [if_neg (fun q => h3 q.2)]
       exact (tg_ w T N Nc zs n hT hi hm hz hN hcU h0 h1 h2' _ he h3).mono fun _ _ h => h.s
 · rw [if_pos h0, if_neg (fun q => h0 q.1)]
   exact (of_ w T N Nc zs n hT hi hm hz hN _ rfl (by simpa using h0)).mono fun _ _ h => h.s
end
theorem vy_ {n : NodeV} (hm : n.Small) : (lastU n.d).length ≤ 1048576 := by
 by_cases h : 0 < n.U.length
 · rw [fm_ h]
   exact (hm.undo _ (List.getElem_mem _)).len
 · have h0 : n.U = [] := by
    cases hq : n.U with
    | nil => rfl
    | cons a l => rw [hq] at h; simp at h
   unfold lastU
   show ((n.U.map OpV.ps).getD _ []).length ≤ _
   rw [h0]
   simp
theorem um_ {n : NodeV} (hm : n.Small) : MidD (undoDD n.d) := by
 unfold undoDD editDD
 refine si_ (vy_ hm) (fun x hx => ?_) (by simpa [shiftD, textD, preD] using hm.sl) ?_ (fun o ho => ?_) ?_ (by simp [shiftD, textD, preD]) (by simp [shiftD, textD, preD]) (by simp [shiftD, textD, preD]) (by simp [shiftD, textD, preD])
 · have hx' : x ∈ n.S.map SideV.d := hx
   obtain ⟨y, hy, rfl⟩ := List.mem_map.1 hx'
   exact (hm.sides y hy).smallS
 · have := hm.ul
   show ((n.U.map OpV.ps).take _).length ≤ _
   rw [List.length_take, List.length_map]
   omega
 · have ho' : o ∈ (n.U.map OpV.ps).take ((n.U.map OpV.ps).length - 1) := ho
   obtain ⟨y, hy, rfl⟩ := List.mem_map.1 (List.mem_of_mem_take ho')
   exact (hm.undo y hy).len
 · have := hm.ml
   show (n.M.map _).length ≤ _
   rw [List.length_map]
   omega
theorem zr_ {zs : List Int} {n : NodeV} (hm : n.Small) : MidD (UD zs n) := by
 unfold UD
 split
 · exact um_ hm
 · exact xj_
end Go.Proofs.YtacacoklddogmaaGreatDoor
