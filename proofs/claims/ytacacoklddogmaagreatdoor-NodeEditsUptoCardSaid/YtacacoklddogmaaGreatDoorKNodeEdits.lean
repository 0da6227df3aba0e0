/-
 wherrylaw.NodeEdits returns true for every tree, node and operation, where what it reads is of bulk at most 1048576, and unicode/utf8's two tables are as their text lays them.
-/
import Derived.Test.YtacacoklddogmaaGreatDoorKGE
import Derived.Test.YtacacoklddogmaaGreatDoorRows
import Derived.Deep.DeepCutAuto
namespace Go.Proofs.YtacacoklddogmaaGreatDoor
set_option maxHeartbeats 4000000
open Go.ChangeShapes Go.WideShapes Go.ChangeAt Go.RowKit
set_option maxRecDepth 100000
namespace nodeEdits
structure ArgsAt (w : World) (nv : Array Value) (W : World) : Prop where
 nd : W.heap[w.heap.size]? = some (.cells nv 28 (0, 0))
 b : Below w.heap.size w W
 z : w.heap.size < W.heap.size
theorem ArgsAt.later {w W W' : World} {nv : Array Value} (k : ArgsAt w nv W) (hb : Below W.heap.size W W') : ArgsAt w nv W' := by
 have h2 := k.z
 have h3 := hb.size
 exact ⟨(hb.block _ h2).trans k.nd, bThen k.b hb, by omega⟩
theorem ArgsAt.new (w : World) (nv : Array Value) : ArgsAt w nv (w.alloc (.cells nv 28)) :=
 ⟨World.alloc_heap_new _ _, bA_, by simp⟩
theorem ArgsAt.set {w W W' : World} {nv : Array Value} {B : Nat} (k : ArgsAt w nv W) (hB : w.heap.size < B) (hO : Only B W W') : ArgsAt w nv W' := by
 have h1 := k.z
 have h2 := hO.size
 exact ⟨(hO.block _ h1 (by omega)).trans k.nd, k.b.trans (hO.below (by omega) (by have := k.b.size; omega)), by omega⟩
theorem walk (w : World) (T : Option Addr) (N Nc : Nat) (zs : List Int) (hz : Sl (· < w.heap.size) w 1 T N (zs.map (Value.int .i64))) (hN : N ≤ 9223372036854775807) (n : NodeV) (hT : Tabs w) (hi : n.In w) (hm : n.Small) (pA : Option Addr) (pc : Nat) (ps : List PartD) (hop : OpIn (· < w.heap.size) w pA ps) (hpl : ps.length ≤ 1048576) (hpt : ∀ p ∈ ps, p.text.size ≤ 1048576) :
 Calls Tryz.prog 3 #[.slice T N Nc, n.val, .slice pA ps.length pc] w (R_ w (.bool true)) := by
 have HCP := h_ (fun W (hi : n.In W) => gu_ W n hi hm)
 have HOC := h_ (fun W hs => db_ W pA pc ps hs hpl)
 have HS : Hid (∀ (W : World) (n1 : NodeV) (qA : Option Addr) (qc : Nat), n1.d = n.d → Tabs W → n1.In W → Sl (· < W.heap.size) W 1 T N (zs.map (Value.int .i64)) → OpIn (· < W.heap.size) W qA ps → Calls Tryz.prog 7 #[.slice T N Nc, n1.val, .slice qA ps.length qc] W (RetTurnS W (ND zs n ps) (NE zs n ps))) := h_ (fun W n1 qA qc hd hT hi hz ho => by
  have h := yy_ W T N Nc zs n1 hT hi (NodeV.Small.of_d hd hm) hz hN qA qc ps ho hpl hpt
  rw [NE_d hd, ND_d hd] at h
  exact h)
 have HR := h_ (fun W hT (hi : n.In W) hz ho => un_ W T N Nc zs n hT hi hm hz hN pA pc ps ho hpl hpt)
 have HMID := h_ (bab_ (zs := zs) hm hpl)
 have HNM := h_ (fun (m : NodeV) (hd : m.d = n.d) => (NodeV.Small.of_d hd hm).mid)
 generalize ND zs n ps = D at *
 generalize NE zs n ps = er at *
 have HT := h_ hT
 have HZ := h_ hz
 have HI := h_ hi
 have HOP := h_ hop
 clear hT hz hi hm hop hpl hpt
 have HA := h_ (ArgsAt.new w n.cv)
 obtain ⟨WA, hWA⟩ : ∃ WA, WA = w.alloc (.cells n.cv 28) := ⟨_, rfl⟩
 rw [← hWA] at HA
 have HW := h_ hWA.symm
 clear hWA
 obtain ⟨n0, n1, n2, n3, n4, n5, n6, n7, nz⟩ := r_ HA.out.nd
 go_enter Tryz.func3, Tryz.ntmps3
 go_wp2_with fail
 rw [HW.out]
 refine (HCP.out _ (HI.out.later HA.out.b)).mono ?_
 rintro r w1 ⟨m1, rfl, hd1, hfr1, hb1⟩
 have hin1 := hfr1.inS
 have HQ1 := h_ (HA.out.later hb1)
 have HM1 := h_ (hin1.in_ (fun b hb => hb.2))
 have HD1 := h_ hd1
 have HN1 := h_ (hin1.moved (S' := (· < w1.heap.size)) fun _ hb => ⟨hb.2, rfl⟩)
 clear hd1 hfr1 hin1 hb1 n0 n1 n2 n3 n4 n5 n6 n7 nz
 go_wp2_with fail
 obtain ⟨K, hK⟩ : ∃ K, K = w1.heap.size := ⟨_, rfl⟩
 obtain ⟨W2, hW2⟩ : ∃ W2, W2 = w1.alloc (.cells #[.int .i64 m1.me, .int .i64 m1.ep, .int .i64 m1.up, .bool m1.rd, .string m1.t, .slice m1.sA m1.S.length m1.sc, .slice m1.uA m1.U.length m1.uc, .slice m1.mA m1.M.length m1.mc] 28) := ⟨_, rfl⟩
 have hb2 : Below w1.heap.size w1 W2 := by rw [hW2]; exact bA_
 have HK2 := h_ (show W2.heap[K]? = some (.cells #[.int .i64 m1.me, .int .i64 m1.ep, .int .i64 m1.up, .bool m1.rd, .string m1.t, .slice m1.sA m1.S.length m1.sc, .slice m1.uA m1.U.length m1.uc, .slice m1.mA m1.M.length m1.mc] 28 (0, 0)) by rw [hW2, hK]; exact World.alloc_heap_new _ _)
 have HQ2 := h_ (HQ1.out.later hb2)
 have HM2 := h_ (HM1.out.later hb2)
 have HN2 := h_ (HN1.out.moved (S' := (· < W2.heap.size)) fun b hb => ⟨Nat.lt_of_lt_of_le hb hb2.size, hb2.block b hb⟩)
 rw [← hW2, ← hK]
 have hwK : w.heap.size < K := by have := HQ1.out.z; omega
 clear hW2 hK hb2
 obtain ⟨k0, k1, k2, k3, k4, k5, k6, k7, kz⟩ := r_ HK2.out
 go_cut [8, 9] (fun s8 s9 wx => ∃ (B : Nat) (s : EdV), s8 = .pointer (some ⟨B, 0, none⟩) ∧ s9 = .int .i64 er ∧ TurnAt wx B D s ∧ ArgsAt w n.cv wx ∧ wx.heap[K]? = some (.cells #[.int .i64 m1.me, .int .i64 m1.ep, .int .i64 m1.up, .bool m1.rd, .string m1.t, .slice m1.sA m1.S.length m1.sc, .slice m1.uA m1.U.length m1.uc, .slice m1.mA m1.M.length m1.mc] 28 (0, 0)) ∧ m1.In wx)
 case first =>
  go_region_law (first
   | (go_simp; go_at_call 8; (with_reducible refine (HOC.out _ ?_).mono ?_); exact Sl.later (Sl.later HOP.out HQ2.out.b) bz_; rintro r w3 ⟨qA, qc, rfl, hq3, hb3⟩; have HB3 : Below W2.heap.size W2 w3 := bThen bz_ hb3; have HO3 := (Sl.of_own _ hq3).moved (S' := (· < w3.heap.size)) (w' := w3) fun b hb => ⟨hb.2, rfl⟩; obtain ⟨l0, l1, l2, l3, l4, l5, l6, l7, lz⟩ := r_ ((HB3.block K kz).trans HK2.out); first | (have HX1 : w3.heap[W2.heap.size]? = some (.cells z_ 35 (0, 0)) := (hb3.block _ (by simp)).trans (World.alloc_heap_new _ _)) | skip)
   | (go_simp; go_at_call 7; (with_reducible refine (HS.out _ m1 qA qc HD1.out ?_ ?_ ?_ ?_).mono ?_); exact ((HT.out.later HQ2.out.b).later HB3).later bz_; exact (HM2.out.later HB3).later bz_; exact Sl.later (Sl.later (Sl.later HZ.out HQ2.out.b) HB3) bz_; exact HO3.later bz_; rintro r w4 ⟨s, rfl, hd, hin, hp, hr, hb4⟩; have HB4 : Below w3.heap.size w3 w4 := bThen bz_ hb4; first
       | (have HX2 : w4.heap[w3.heap.size]? = some (.cells z_ 35 (0, 0)) := (hb4.block _ (by simp)).trans (World.alloc_heap_new _ _); obtain ⟨x0, x1, x2, x3, x4, x5, x6, x7, x8, x9, xz⟩ := j_ HX2; have F0 := tenF HX2 0; have F1 := tenF HX2 1; have F2 := tenF HX2 2; have F3 := tenF HX2 3; have F4 := tenF HX2 4; have F5 := tenF HX2 5; have F6 := tenF HX2 6; have F7 := tenF HX2 7; have F8 := tenF HX2 8; have F9 := tenF HX2 9)
       | (have HX2 : w4.heap[W2.heap.size]? = some (.cells z_ 35 (0, 0)) := (HB4.block _ (by have := hb3.size; simp at this; omega)).trans HX1; obtain ⟨x0, x1, x2, x3, x4, x5, x6, x7, x8, x9, xz⟩ := j_ HX2; have F0 := tenF HX2 0; have F1 := tenF HX2 1; have F2 := tenF HX2 2; have F3 := tenF HX2 3; have F4 := tenF HX2 4; have F5 := tenF HX2 5; have F6 := tenF HX2 6; have F7 := tenF HX2 7; have F8 := tenF HX2 8; have F9 := tenF HX2 9)
       | skip))
  all_goals (
   have HQ4 := HQ2.out.later (bThen HB3 HB4)
   have HK4 := ((bThen HB3 HB4).block K kz).trans HK2.out
   have HM4 := HM2.out.later (bThen HB3 HB4)
   go_wp2_with fail
   go_meet
   first
   | (have q1 := ug_ (s := s) (D := D) (.slice s.A D.L.length s.c) (.slice s.RA D.R.length s.rc) rfl rfl HX2 (by first | (simp; done) | (have := hb3.size; simp at this; omega)) hd hin hp hr
      have q3 := HB3.size
      refine ⟨_, s, rfl, rfl, q1.1, HQ4.set (by omega) q1.2, (q1.2.block K (Array.getElem?_eq_some_iff.1 HK4).1 (by omega)).trans HK4, (HN2.out.moved (S' := (· < _)) fun b hb => ⟨Nat.lt_of_lt_of_le (Nat.lt_of_lt_of_le hb (bThen HB3 HB4).size) q1.2.size, (q1.2.block b (Nat.lt_of_lt_of_le hb (bThen HB3 HB4).size) (by omega)).trans ((bThen HB3 HB4).block b hb)⟩).in_ (fun _ h => h)⟩)
   | (have q1 := lt_ (D := D) hd hin hp hr
      refine ⟨_, s, rfl, rfl, q1, ?_, ?_, ?_⟩
      · exact HQ4.later bA_
      · exact (p_ _ _ K (Array.getElem?_eq_some_iff.1 HK4).1).trans HK4
      · exact HM4.later bA_))
 case rest =>
 obtain ⟨B, s, rfl, rfl, h1, h2, h3, h4⟩ := hcut
 have HG1 := h_ h1
 have HG2 := h_ h2
 have HG3 := h_ h3
 have HG4 := h_ h4
 obtain ⟨n0, n1, n2, n3, n4, n5, n6, n7, nz⟩ := r_ HG2.out.nd
 clear h1 h2 h3 h4 k0 k1 k2 k3 k4 k5 k6 k7 kz
 go_wp2_with fail
 refine (HR.out _ (HT.out.later HG2.out.b) (HI.out.later HG2.out.b) (Sl.later HZ.out HG2.out.b) (Sl.later HOP.out HG2.out.b)).mono ?_
 rintro r w5 ⟨s', rfl, hd5, hin5, hp5, hr5, hb5⟩
 have HT5 := h_ (lt_ hd5 hin5 hp5 hr5)
 have HG5 := h_ (HG1.out.later hb5)
 have HK5 := h_ ((hb5.block K (Array.getElem?_eq_some_iff.1 HG3.out).1).trans HG3.out)
 have HM5 := h_ (HG4.out.later hb5)
 have HA5 := h_ (HG2.out.later hb5)
 clear hd5 hin5 hp5 hr5 hb5 n0 n1 n2 n3 n4 n5 n6 n7 nz
 obtain ⟨u0, u1, u2, u3, u4, u5, u6, u7, u8, u9, uz⟩ := j_ HG5.out.blk
 go_wp2_with fail
 clear u0 u1 u2 u3 u4 u5 u6 u7 u8 u9 uz
 obtain ⟨G, hG⟩ : ∃ G, G = w5.alloc (.cells #[.int .i64 s'.n.me, .int .i64 s'.n.ep, .int .i64 s'.n.up, .bool s'.n.rd, .string s'.n.t, .slice s'.n.sA s'.n.S.length s'.n.sc, .slice s'.n.uA s'.n.U.length s'.n.uc, .slice s'.n.mA s'.n.M.length s'.n.mc, .slice s'.A D.L.length s'.c, .slice s'.RA D.R.length s'.rc] 35) := ⟨_, rfl⟩
 have hbg : Below w5.heap.size w5 G := by rw [hG]; exact bA_
 have HT6 := h_ (show TurnAt G w5.heap.size D s' by rw [hG]; exact HT5.out)
 have HG6 := h_ (HG5.out.later hbg)
 have HK6 := h_ ((hbg.block K (Array.getElem?_eq_some_iff.1 HK5.out).1).trans HK5.out)
 have HM6 := h_ (HM5.out.later hbg)
 have HA6 := h_ (HA5.out.later hbg)
 rw [← hG]
 clear hG hbg HT5
 have hL1 : s.L.map PostV.d = D.L := congrArg EdD.L HG6.out.d
 have hL2 : s'.L.map PostV.d = D.L := congrArg EdD.L HT6.out.d
 have hR1 : s.RL.map RecV.key = D.R := congrArg EdD.R HG6.out.d
 have hR2 : s'.RL.map RecV.key = D.R := congrArg EdD.R HT6.out.d
 have HRC := h_ (fun W (hb : Below G.heap.size G W) => of_ W s.RA s'.RA s.rc s'.rc D.R.length s.RL s'.RL (HG6.out.r.later hb) (HT6.out.r.later hb) (hR2.trans hR1.symm) (by rw [← hR1, List.length_map]) HMID.out.rl (fun r hr => HMID.out.recs r.key (by rw [← hR1]; exact List.mem_map.2 ⟨r, hr, rfl⟩)))
 refine (ok_ G s.n s'.n s.A s'.A s.c s'.c D.L.length s.L s'.L HG6.out.n HT6.out.n ((congrArg EdD.n HT6.out.d).trans (congrArg EdD.n HG6.out.d).symm) (HMID.out.node (congrArg EdD.n HG6.out.d)) HG6.out.p HT6.out.p (hL2.trans hL1.symm) (by rw [← hL1, List.length_map]) HMID.out.pl (fun x hx => HMID.out.posts x.d (by rw [← hL1]; exact List.mem_map.2 ⟨x, hx, rfl⟩)) s.RA s'.RA s.rc s'.rc D.R.length HRC).mono ?_
 rintro r w6 ⟨rfl, hb6⟩
 have HK7 := h_ ((hb6.block K (Array.getElem?_eq_some_iff.1 HK6.out).1).trans HK6.out)
 have HM7 := h_ (HM6.out.later hb6)
 have HA7 := h_ (HA6.out.later hb6)
 clear hL1 hL2 hR1 hR2 hb6
 obtain ⟨n0, n1, n2, n3, n4, n5, n6, n7, nz⟩ := r_ HA7.out.nd
 obtain ⟨k0, k1, k2, k3, k4, k5, k6, k7, kz⟩ := r_ HK7.out
 go_wp2_with fail
 refine (lq_ w6 m1 n HM7.out (HI.out.later HA7.out.b) HD1.out.symm (HNM.out m1 HD1.out)).mono ?_
 rintro r w7 ⟨rfl, hb7⟩
 have HF := h_ (bThen HA7.out.b hb7)
 clear hb7 n0 n1 n2 n3 n4 n5 n6 n7 nz k0 k1 k2 k3 k4 k5 k6 k7 kz
 go_wp2_with fail
 go_ret
 exact ⟨by simp, HF.out⟩
theorem contract (H : Type) (enc : TypeId × Value → H) (W : World) (base : Nat) (args : Array Value) (ds gs : List (DataW H)) (before : List MemPlace)
 (hval0 : ∀ (j : Nat) t v, Tryz.f3.params[j]? = some t → args[j]? = some v → Value.okWide Tryz.prog W .any base t v)
 (hW : DataW.Whole enc Tryz.prog Tryz.f3.params.toList Rows.nodeEditsSpec.vars false W args.toList ds gs before) (hk : Rows.uptoSmall H (ds ++ gs) = true) (hT : Tabs W) :
 Calls Tryz.prog 3 args W fun e W' => ∃ v, e = .returned v ∧ Rows.nodeEditsSpec.post enc Tryz.prog Tryz.f3 false true false false W args v W' := by
 have hval : ∀ (j : Nat) t v, Tryz.f3.params[j]? = some t → args[j]? = some v → Value.okWide Tryz.prog W .any base t v := hval0
 have hW' := hW
 obtain ⟨p, q, hA0, hV, rfl, hfz, hnd⟩ := hW
 have hA : DataW.TrodAll enc Tryz.prog W 0 (fun _ => true) true Tryz.f3.params.toList args.toList ds p := hA0
 rw [Tryz.params3] at hA hval
 obtain ⟨rfl, rfl⟩ := trodVars_none hV
 obtain ⟨v0, vs0, d0, ds0, p0, q0, hargs, rfl, rfl, h0, r0⟩ := trodAll_cons hA
 obtain ⟨v1, vs1, d1, ds1, p1, q1, rfl, rfl, rfl, h1, r1⟩ := trodAll_cons r0
 obtain ⟨v2, vs2, d2, ds2, p2, q2, rfl, rfl, rfl, h2, r2⟩ := trodAll_cons r1
 obtain ⟨rfl, rfl, rfl⟩ := trodAll_nil r2
 obtain rfl : args = #[v0, v1, v2] := by cases args; simp_all
 have hbulk := kt_ hk
 have hb0 := Nat.le_trans (cu_ (show d0 ∈ [d0, d1, d2] ++ [] by simp)) hbulk
 have hb1 := Nat.le_trans (cu_ (show d1 ∈ [d0, d1, d2] ++ [] by simp)) hbulk
 have hb2 := Nat.le_trans (cu_ (show d2 ∈ [d0, d1, d2] ++ [] by simp)) hbulk
 obtain ⟨T, N, Nc, zs, rfl, hnc, hcm, hz, _⟩ := zj_ Tryz.underlying23 Tryz.underlying3 (by kernel_rfl) (hval 0 23 v0 rfl rfl) h0
 have hN : N ≤ 9223372036854775807 := by omega
 obtain ⟨cs, rfl, _⟩ := okWide_struct Tryz.underlying28 (hval 1 28 v1 rfl rfl)
 obtain ⟨m, hm⟩ := h1
 obtain ⟨n, hv, hi, hfit⟩ := uo_ hm hb1
 obtain ⟨A0, n0, c0, rfl⟩ := okWide_slice Tryz.underlying30 (hval 2 30 v2 rfl rfl)
 obtain ⟨m1, hm1⟩ := h2
 obtain ⟨pA, pc, ps, hv1, _, _, hop, hpl, ht⟩ := sj_ Tryz.underlying30 hm1 hb2
 obtain ⟨l⟩ := cs
 obtain rfl : l = _ := hv
 rw [hv1] at hW' ⊢
 refine (walk W T N Nc zs hz hN n hT hi hfit.small pA pc ps hop (Nat.le_trans hpl hb2) (fun p hp => (ht p hp).text)).mono fun e W' ⟨he, hg⟩ => ?_
 subst he
 exact ⟨_, rfl, qn_ (tb := 4) laidOut (by kernel_rfl) rfl (by kernel_rfl) Tryz.underlying4 rfl hW' hg⟩
theorem reads (os : Os) {H : Type} (enc : TypeId × Value → H) : ∃ places, DataW.whole enc Tryz.prog ((laidWorld os).forCall (fun _ _ => 0) ⟨#[], #[.slice none 0 0, .agg #[.int .i64 0, .int .i64 0, .int .i64 0, .bool false, .string ⟨#[]⟩, .slice none 0 0, .slice none 0 0, .slice none 0 0], .slice none 0 0], []⟩).memory Tryz.f3.params.toList Rows.nodeEditsSpec.vars false #[.slice none 0 0, .agg #[.int .i64 0, .int .i64 0, .int .i64 0, .bool false, .string ⟨#[]⟩, .slice none 0 0, .slice none 0 0, .slice none 0 0], .slice none 0 0].toList 8 = some ([.nil, .agg [.lit (.int .i64 0), .lit (.int .i64 0), .lit (.int .i64 0), .lit (.bool false), .lit (.string []), .nil, .nil, .nil], .nil], [], places) := by
 have hw : (DataW.whole enc Tryz.prog ((laidWorld os).forCall (fun _ _ => 0) ⟨#[], #[.slice none 0 0, .agg #[.int .i64 0, .int .i64 0, .int .i64 0, .bool false, .string ⟨#[]⟩, .slice none 0 0, .slice none 0 0, .slice none 0 0], .slice none 0 0], []⟩).memory Tryz.f3.params.toList Rows.nodeEditsSpec.vars false #[.slice none 0 0, .agg #[.int .i64 0, .int .i64 0, .int .i64 0, .bool false, .string ⟨#[]⟩, .slice none 0 0, .slice none 0 0, .slice none 0 0], .slice none 0 0].toList 8).map (fun x => (x.1, x.2.1)) = some ([.nil, .agg [.lit (.int .i64 0), .lit (.int .i64 0), .lit (.int .i64 0), .lit (.bool false), .lit (.string []), .nil, .nil, .nil], .nil], []) := by kernel_rfl
 obtain ⟨⟨x1, x2, x3⟩, hx, hx1⟩ := Option.map_eq_some_iff.1 hw
 simp only [Prod.mk.injEq] at hx1
 obtain ⟨rfl, rfl⟩ := hx1
 exact ⟨x3, hx⟩
theorem lifted (os : Os) (started : os.Started) (H : Type) (enc : TypeId × Value → H) (F : Stop.Interp) :
 ReturnsInHanded {} Tryz.checked os 3 .any ((Rows.OpenSpec.upto Rows.nodeEditsSpec).preRow enc Tryz.prog Tryz.f3 Rows.nodeEditsUptoRow.domain false Rows.nodeEditsUptoRow.laid) (((Rows.OpenSpec.upto Rows.nodeEditsSpec).at F).post enc Tryz.prog Tryz.f3 false true false false) := by
 obtain ⟨places, hx⟩ := reads os enc
 refine returnsInHanded_of_row (C := Tryz.checked) (s := Rows.OpenSpec.upto Rows.nodeEditsSpec) own started (by kernel_rfl) Tryz.func3
  (witness_row_atRef (enc := enc) (C := Tryz.checked) false (laidWorld os) #[.slice none 0 0, .agg #[.int .i64 0, .int .i64 0, .int .i64 0, .bool false, .string ⟨#[]⟩, .slice none 0 0, .slice none 0 0, .slice none 0 0], .slice none 0 0] rfl (by kernel_rfl) (by kernel_rfl) (by kernel_rfl)
    (OpenSpec.preRow_of_cond 8 hx (by kernel_rfl) (fun k hk => by cases hk; kernel_rfl) (by kernel_rfl) (qp_ os _))) ?_
 intro W base args ds gs before hval hW _ hcond _ hL _ _
 exact contract H enc W base args ds gs before hval hW (hcond _ rfl) (ss_ hL)
theorem said : Rows.NodeEditsUptoSaid :=
 OpenClaim.holds_of_cond 3 Tryz.f3 rfl rfl rfl rfl rfl rfl rfl ⟨rfl, rfl, rfl, rfl, rfl⟩ rfl rfl rfl rfl rfl (by kernel_rfl) Tryz.func3 (by kernel_rfl)
  (of_decide_eq_true (by kernel_rfl)) (by unfold Func.isWrapper; first | (rw [if_pos (by decide +kernel)]; kernel_rfl) | (rw [if_neg (by decide +kernel)]; exact ⟨rfl, rfl⟩))
  (fun os started H enc _ F => by rw [OpenClaim.pre_eq_preRow]; exact lifted os started H enc F)
theorem plain (f : FuncId) (fn : Func) (hf : Tryz.pinned.checked.prog.funcNamed "wherry/wherrylaw.NodeEdits" = some f) (hfn : Tryz.pinned.checked.prog.funcs[f]? = some fn) :
 false = Tryz.pinned.checked.prog.looks [] ∧ ∀ (j : Nat) t, fn.params[j]? = some t → Tryz.pinned.checked.prog.wantsStandIn t = false := by
 obtain rfl : f = 3 := Option.some.inj ((show Tryz.prog.funcNamed "wherry/wherrylaw.NodeEdits" = some 3 by kernel_rfl).symm.trans hf) |>.symm
 obtain rfl : fn = Tryz.f3 := (Option.some.inj (Tryz.func3.symm.trans hfn)).symm
 refine ⟨by kernel_rfl, fun j t ht => ?_⟩
 have hall : (Tryz.f3.params.toList.all fun u => !Tryz.prog.wantsStandIn u) = true := by kernel_rfl
 have hm : t ∈ Tryz.f3.params.toList := by simpa using Array.mem_of_getElem? ht
 exact (show Tryz.prog.wantsStandIn t = false by simpa using List.all_eq_true.1 hall t hm)
theorem card : Rows.NodeEditsUptoCardSaid :=
 Claim7.holds_tied_plain_at .later [] _ _ _ _ said (fun _ h => by cases h) (by kernel_rfl) (fun _ h => by cases h) nodeEditsUpto_row_tie rfl ⟨rfl, rfl⟩ (by kernel_rfl) rfl plain (by kernel_rfl)
end nodeEdits
end Go.Proofs.YtacacoklddogmaaGreatDoor
