/-
 wherrylaw.NodeUndoes returns true for every tree and node, where what it reads is of bulk at most 1048576, and unicode/utf8's two tables are as their text lays them.
-/
import Derived.Test.YtacacoklddogmaaGreatDoorKGH
import Derived.Test.YtacacoklddogmaaGreatDoorRows
import Derived.Deep.DeepCutAuto
namespace Go.Proofs.YtacacoklddogmaaGreatDoor
set_option maxHeartbeats 4000000
open Go.ChangeShapes Go.WideShapes Go.ChangeAt Go.RowKit
set_option maxRecDepth 100000
namespace nodeUndoes
structure ArgsAt (w : World) (nv : Array Value) (W : World) : Prop where
 nd : W.heap[w.heap.size]? = some (.cells nv 28 (0, 0))
 b : Below w.heap.size w W
 z : w.heap.size < W.heap.size
theorem ArgsAt.later {w W W' : World} {nv : Array Value} (k : ArgsAt w nv W) (hb : Below W.heap.size W W') : ArgsAt w nv W' := by
 have h2 := k.z
 have h3 := hb.size
 exact ⟨(hb.block _ h2).trans k.nd, bThen k.b hb, by omega⟩
theorem ArgsAt.new (w : World) (nv : Array Value) : ArgsAt w nv (w.alloc (.cells nv 28)) :=
 ⟨World.alloc_heap_new _ _, bA_, by simp⟩
theorem ArgsAt.set {w W W' : World} {nv : Array Value} {B : Nat} (k : ArgsAt w nv W) (hB : w.heap.size < B) (hO : Only B W W') : ArgsAt w nv W' := by
 have h1 := k.z
 have h2 := hO.size
 exact ⟨(hO.block _ h1 (by omega)).trans k.nd, k.b.trans (hO.below (by omega) (by have := k.b.size; omega)), by omega⟩
theorem yt_ {P : Program} {w : World} {r : Reach} {b : Nat} {t : TypeId} {fs : Array Field} {n : NodeV} (ht : P.underlying t = some (.struct fs)) (h : Value.okWide P w r b t n.val) : n.U.length ≤ n.uc := by
 simp only [Value.okWide, ht] at h
 obtain ⟨cs, h1, _, ts, _, _, h5⟩ := h
 obtain rfl := Value.agg.inj h1
 obtain ⟨u, _, hu⟩ := h5 6 (.slice n.uA n.U.length n.uc) rfl
 unfold Cell.okWide at hu
 split at hu <;> try (simp_all; done)
 unfold Cell.ok at hu
 split at hu <;> simp_all
theorem walk (w : World) (T : Option Addr) (N Nc : Nat) (zs : List Int) (hz : Sl (· < w.heap.size) w 1 T N (zs.map (Value.int .i64))) (hN : N ≤ 9223372036854775807) (n : NodeV) (hT : Tabs w) (hi : n.In w) (hm : n.Small) (hcU : n.U.length ≤ n.uc) :
 Calls Tryz.prog 4 #[.slice T N Nc, n.val] w (R_ w (.bool true)) := by
 have HCP := h_ (fun W (hi : n.In W) => gt_ W n hi hm)
 have HS : Hid (∀ (W : World) (n1 : NodeV), n1.d = n.d → Tabs W → n1.In W → Sl (· < W.heap.size) W 1 T N (zs.map (Value.int .i64)) → Calls Tryz.prog 12 #[.slice T N Nc, n1.val] W (RetTurnS W (UD zs n) (UE zs n))) := h_ (fun W n1 hd hT hi hz => by
  have h := yx_ W T N Nc zs n1 hT hi (NodeV.Small.of_d hd hm) hz hN
  rw [UE_d hd, UD_d hd] at h
  exact h)
 have HR := h_ (fun W hT (hi : n.In W) hz => us_ W T N Nc zs n hT hi hm hz hN hcU)
 have HMID := h_ (zr_ (zs := zs) hm)
 have HNM := h_ (fun (m : NodeV) (hd : m.d = n.d) => (NodeV.Small.of_d hd hm).mid)
 generalize UD zs n = D at *
 generalize UE zs n = er at *
 have HT := h_ hT
 have HZ := h_ hz
 have HI := h_ hi
 clear hT hz hi hm
 have HA := h_ (ArgsAt.new w n.cv)
 obtain ⟨WA, hWA⟩ : ∃ WA, WA = w.alloc (.cells n.cv 28) := ⟨_, rfl⟩
 rw [← hWA] at HA
 have HW := h_ hWA.symm
 clear hWA
 obtain ⟨n0, n1, n2, n3, n4, n5, n6, n7, nz⟩ := l_ HA.out.nd
 go_enter Tryz.func4, Tryz.ntmps4
 go_wp2_with fail
 rw [HW.out]
 refine (HCP.out _ (HI.out.later HA.out.b)).mono ?_
 rintro r w1 ⟨m1, rfl, hd1, hfr1, hb1⟩
 have hin1 := hfr1.inS
 have HQ1 := h_ (HA.out.later hb1)
 have HM1 := h_ (hin1.in_ (fun b hb => hb.2))
 have HD1 := h_ hd1
 have HN1 := h_ (hin1.moved (S' := (· < w1.heap.size)) fun _ hb => ⟨hb.2, rfl⟩)
 clear hd1 hfr1 hin1 hb1 n0 n1 n2 n3 n4 n5 n6 n7 nz
 go_wp2_with fail
 obtain ⟨K, hK⟩ : ∃ K, K = w1.heap.size := ⟨_, rfl⟩
 obtain ⟨W2, hW2⟩ : ∃ W2, W2 = w1.alloc (.cells #[.int .i64 m1.me, .int .i64 m1.ep, .int .i64 m1.up, .bool m1.rd, .string m1.t, .slice m1.sA m1.S.length m1.sc, .slice m1.uA m1.U.length m1.uc, .slice m1.mA m1.M.length m1.mc] 28) := ⟨_, rfl⟩
 have hb2 : Below w1.heap.size w1 W2 := by rw [hW2]; exact bA_
 have HK2 := h_ (show W2.heap[K]? = some (.cells #[.int .i64 m1.me, .int .i64 m1.ep, .int .i64 m1.up, .bool m1.rd, .string m1.t, .slice m1.sA m1.S.length m1.sc, .slice m1.uA m1.U.length m1.uc, .slice m1.mA m1.M.length m1.mc] 28 (0, 0)) by rw [hW2, hK]; exact World.alloc_heap_new _ _)
 have HQ2 := h_ (HQ1.out.later hb2)
 have HM2 := h_ (HM1.out.later hb2)
 have HN2 := h_ (HN1.out.moved (S' := (· < W2.heap.size)) fun b hb => ⟨Nat.lt_of_lt_of_le hb hb2.size, hb2.block b hb⟩)
 rw [← hW2, ← hK]
 have hwK : w.heap.size < K := by have := HQ1.out.z; omega
 clear hW2 hK hb2
 obtain ⟨k0, k1, k2, k3, k4, k5, k6, k7, kz⟩ := l_ HK2.out
 refine (HS.out _ m1 HD1.out (HT.out.later HQ2.out.b) HM2.out (Sl.later HZ.out HQ2.out.b)).mono ?_
 rintro r w4 ⟨s, rfl, hd, hin, hp, hr, hb4⟩
 have HQ4 := HQ2.out.later hb4
 have HK4 := (hb4.block K kz).trans HK2.out
 have HM4 := HM2.out.later hb4
 clear k0 k1 k2 k3 k4 k5 k6 k7
 obtain ⟨n0, n1, n2, n3, n4, n5, n6, n7, nz⟩ := l_ HQ4.nd
 go_wp2_with fail
 clear n0 n1 n2 n3 n4 n5 n6 n7 nz
 obtain ⟨W5, hW5⟩ : ∃ W5, W5 = w4.alloc (.cells #[.int .i64 s.n.me, .int .i64 s.n.ep, .int .i64 s.n.up, .bool s.n.rd, .string s.n.t, .slice s.n.sA s.n.S.length s.n.sc, .slice s.n.uA s.n.U.length s.n.uc, .slice s.n.mA s.n.M.length s.n.mc, .slice s.A D.L.length s.c, .slice s.RA D.R.length s.rc] 35) := ⟨_, rfl⟩
 obtain ⟨B, hB⟩ : ∃ B, B = w4.heap.size := ⟨_, rfl⟩
 rw [← hW5, ← hB]
 have HG1 := h_ (show TurnAt W5 B D s by rw [hW5, hB]; exact mb_ hd hin hp hr)
 have hb5 : Below w4.heap.size w4 W5 := by rw [hW5]; exact bA_
 have HG2 := h_ (HQ4.later hb5)
 have HG3 := h_ ((hb5.block K (Array.getElem?_eq_some_iff.1 HK4).1).trans HK4)
 have HG4 := h_ (HM4.later hb5)
 clear hW5 hB hd hin hp hr hb4 hb5 HQ4 HK4 HM4 kz
 refine (HR.out _ (HT.out.later HG2.out.b) (HI.out.later HG2.out.b) (Sl.later HZ.out HG2.out.b)).mono ?_
 rintro r w5 ⟨s', rfl, hd5, hin5, hp5, hr5, hb5⟩
 have HT5 := h_ (mb_ hd5 hin5 hp5 hr5)
 have HG5 := h_ (HG1.out.later hb5)
 have HK5 := h_ ((hb5.block K (Array.getElem?_eq_some_iff.1 HG3.out).1).trans HG3.out)
 have HM5 := h_ (HG4.out.later hb5)
 have HA5 := h_ (HG2.out.later hb5)
 clear hd5 hin5 hp5 hr5 hb5
 obtain ⟨u0, u1, u2, u3, u4, u5, u6, u7, u8, u9, uz⟩ := f_ HG5.out.blk
 go_wp2_with fail
 clear u0 u1 u2 u3 u4 u5 u6 u7 u8 u9 uz
 obtain ⟨G, hG⟩ : ∃ G, G = w5.alloc (.cells #[.int .i64 s'.n.me, .int .i64 s'.n.ep, .int .i64 s'.n.up, .bool s'.n.rd, .string s'.n.t, .slice s'.n.sA s'.n.S.length s'.n.sc, .slice s'.n.uA s'.n.U.length s'.n.uc, .slice s'.n.mA s'.n.M.length s'.n.mc, .slice s'.A D.L.length s'.c, .slice s'.RA D.R.length s'.rc] 35) := ⟨_, rfl⟩
 have hbg : Below w5.heap.size w5 G := by rw [hG]; exact bA_
 have HT6 := h_ (show TurnAt G w5.heap.size D s' by rw [hG]; exact HT5.out)
 have HG6 := h_ (HG5.out.later hbg)
 have HK6 := h_ ((hbg.block K (Array.getElem?_eq_some_iff.1 HK5.out).1).trans HK5.out)
 have HM6 := h_ (HM5.out.later hbg)
 have HA6 := h_ (HA5.out.later hbg)
 rw [← hG]
 clear hG hbg HT5
 have hL1 : s.L.map PostV.d = D.L := congrArg EdD.L HG6.out.d
 have hL2 : s'.L.map PostV.d = D.L := congrArg EdD.L HT6.out.d
 have hR1 : s.RL.map RecV.key = D.R := congrArg EdD.R HG6.out.d
 have hR2 : s'.RL.map RecV.key = D.R := congrArg EdD.R HT6.out.d
 have HRC := h_ (fun W (hb : Below G.heap.size G W) => op_ W s.RA s'.RA s.rc s'.rc D.R.length s.RL s'.RL (HG6.out.r.later hb) (HT6.out.r.later hb) (hR2.trans hR1.symm) (by rw [← hR1, List.length_map]) HMID.out.rl (fun r hr => HMID.out.recs r.key (by rw [← hR1]; exact List.mem_map.2 ⟨r, hr, rfl⟩)))
 refine (oq_ G s.n s'.n s.A s'.A s.c s'.c D.L.length s.L s'.L HG6.out.n HT6.out.n ((congrArg EdD.n HT6.out.d).trans (congrArg EdD.n HG6.out.d).symm) (HMID.out.node (congrArg EdD.n HG6.out.d)) HG6.out.p HT6.out.p (hL2.trans hL1.symm) (by rw [← hL1, List.length_map]) HMID.out.pl (fun x hx => HMID.out.posts x.d (by rw [← hL1]; exact List.mem_map.2 ⟨x, hx, rfl⟩)) s.RA s'.RA s.rc s'.rc D.R.length HRC).mono ?_
 rintro r w6 ⟨rfl, hb6⟩
 have HK7 := h_ ((hb6.block K (Array.getElem?_eq_some_iff.1 HK6.out).1).trans HK6.out)
 have HM7 := h_ (HM6.out.later hb6)
 have HA7 := h_ (HA6.out.later hb6)
 clear hL1 hL2 hR1 hR2 hb6
 obtain ⟨n0, n1, n2, n3, n4, n5, n6, n7, nz⟩ := l_ HA7.out.nd
 obtain ⟨k0, k1, k2, k3, k4, k5, k6, k7, kz⟩ := l_ HK7.out
 go_wp2_with fail
 refine (ly_ w6 m1 n HM7.out (HI.out.later HA7.out.b) HD1.out.symm (HNM.out m1 HD1.out)).mono ?_
 rintro r w7 ⟨rfl, hb7⟩
 have HF := h_ (bThen HA7.out.b hb7)
 clear hb7 n0 n1 n2 n3 n4 n5 n6 n7 nz k0 k1 k2 k3 k4 k5 k6 k7 kz
 go_wp2_with fail
 go_ret
 exact ⟨by simp, HF.out⟩
theorem contract (H : Type) (enc : TypeId × Value → H) (W : World) (base : Nat) (args : Array Value) (ds gs : List (DataW H)) (before : List MemPlace)
 (hval0 : ∀ (j : Nat) t v, Tryz.f4.params[j]? = some t → args[j]? = some v → Value.okWide Tryz.prog W .any base t v)
 (hW : DataW.Whole enc Tryz.prog Tryz.f4.params.toList Rows.nodeUndoesSpec.vars false W args.toList ds gs before) (hk : Rows.uptoSmall H (ds ++ gs) = true) (hT : Tabs W) :
 Calls Tryz.prog 4 args W fun e W' => ∃ v, e = .returned v ∧ Rows.nodeUndoesSpec.post enc Tryz.prog Tryz.f4 false true false false W args v W' := by
 have hval : ∀ (j : Nat) t v, Tryz.f4.params[j]? = some t → args[j]? = some v → Value.okWide Tryz.prog W .any base t v := hval0
 have hW' := hW
 obtain ⟨p, q, hA0, hV, rfl, hfz, hnd⟩ := hW
 have hA : DataW.TrodAll enc Tryz.prog W 0 (fun _ => true) true Tryz.f4.params.toList args.toList ds p := hA0
 rw [Tryz.params4] at hA hval
 obtain ⟨rfl, rfl⟩ := trodVars_none hV
 obtain ⟨v0, vs0, d0, ds0, p0, q0, hargs, rfl, rfl, h0, r0⟩ := trodAll_cons hA
 obtain ⟨v1, vs1, d1, ds1, p1, q1, rfl, rfl, rfl, h1, r1⟩ := trodAll_cons r0
 obtain ⟨rfl, rfl, rfl⟩ := trodAll_nil r1
 obtain rfl : args = #[v0, v1] := by cases args; simp_all
 have hbulk := lg_ hk
 have hb0 := Nat.le_trans (dc_ (show d0 ∈ [d0, d1] ++ [] by simp)) hbulk
 have hb1 := Nat.le_trans (dc_ (show d1 ∈ [d0, d1] ++ [] by simp)) hbulk
 obtain ⟨T, N, Nc, zs, rfl, hnc, hcm, hz, _⟩ := zo_ Tryz.underlying23 Tryz.underlying3 (by kernel_rfl) (hval 0 23 v0 rfl rfl) h0
 have hN : N ≤ 9223372036854775807 := by omega
 have hok := hval 1 28 v1 rfl rfl
 obtain ⟨cs, rfl, _⟩ := okWide_struct Tryz.underlying28 hok
 obtain ⟨m, hm⟩ := h1
 obtain ⟨n, hv, hi, hfit⟩ := wl_ hm hb1
 obtain ⟨l⟩ := cs
 obtain rfl : l = _ := hv
 have hcU := yt_ Tryz.underlying28 hok
 refine (walk W T N Nc zs hz hN n hT hi hfit.small hcU).mono fun e W' ⟨he, hg⟩ => ?_
 subst he
 exact ⟨_, rfl, qu_ (tb := 4) laidOut (by kernel_rfl) rfl (by kernel_rfl) Tryz.underlying4 rfl hW' hg⟩
theorem reads (os : Os) {H : Type} (enc : TypeId × Value → H) : ∃ places, DataW.whole enc Tryz.prog ((laidWorld os).forCall (fun _ _ => 0) ⟨#[], #[.slice none 0 0, .agg #[.int .i64 0, .int .i64 0, .int .i64 0, .bool false, .string ⟨#[]⟩, .slice none 0 0, .slice none 0 0, .slice none 0 0]], []⟩).memory Tryz.f4.params.toList Rows.nodeUndoesSpec.vars false #[.slice none 0 0, .agg #[.int .i64 0, .int .i64 0, .int .i64 0, .bool false, .string ⟨#[]⟩, .slice none 0 0, .slice none 0 0, .slice none 0 0]].toList 8 = some ([.nil, .agg [.lit (.int .i64 0), .lit (.int .i64 0), .lit (.int .i64 0), .lit (.bool false), .lit (.string []), .nil, .nil, .nil]], [], places) := by
 have hw : (DataW.whole enc Tryz.prog ((laidWorld os).forCall (fun _ _ => 0) ⟨#[], #[.slice none 0 0, .agg #[.int .i64 0, .int .i64 0, .int .i64 0, .bool false, .string ⟨#[]⟩, .slice none 0 0, .slice none 0 0, .slice none 0 0]], []⟩).memory Tryz.f4.params.toList Rows.nodeUndoesSpec.vars false #[.slice none 0 0, .agg #[.int .i64 0, .int .i64 0, .int .i64 0, .bool false, .string ⟨#[]⟩, .slice none 0 0, .slice none 0 0, .slice none 0 0]].toList 8).map (fun x => (x.1, x.2.1)) = some ([.nil, .agg [.lit (.int .i64 0), .lit (.int .i64 0), .lit (.int .i64 0), .lit (.bool false), .lit (.string []), .nil, .nil, .nil]], []) := by kernel_rfl
 obtain ⟨⟨x1, x2, x3⟩, hx, hx1⟩ := Option.map_eq_some_iff.1 hw
 simp only [Prod.mk.injEq] at hx1
 obtain ⟨rfl, rfl⟩ := hx1
 exact ⟨x3, hx⟩
theorem lifted (os : Os) (started : os.Started) (H : Type) (enc : TypeId × Value → H) (F : Stop.Interp) :
 ReturnsInHanded {} Tryz.checked os 4 .any ((Rows.OpenSpec.upto Rows.nodeUndoesSpec).preRow enc Tryz.prog Tryz.f4 Rows.nodeUndoesUptoRow.domain false Rows.nodeUndoesUptoRow.laid) (((Rows.OpenSpec.upto Rows.nodeUndoesSpec).at F).post enc Tryz.prog Tryz.f4 false true false false) := by
 obtain ⟨places, hx⟩ := reads os enc
 refine returnsInHanded_of_row (C := Tryz.checked) (s := Rows.OpenSpec.upto Rows.nodeUndoesSpec) own started (by kernel_rfl) Tryz.func4
  (witness_row_atRef (enc := enc) (C := Tryz.checked) false (laidWorld os) #[.slice none 0 0, .agg #[.int .i64 0, .int .i64 0, .int .i64 0, .bool false, .string ⟨#[]⟩, .slice none 0 0, .slice none 0 0, .slice none 0 0]] rfl (by kernel_rfl) (by kernel_rfl) (by kernel_rfl)
    (OpenSpec.preRow_of_cond 8 hx (by kernel_rfl) (fun k hk => by cases hk; kernel_rfl) (by kernel_rfl) (ql_ os _))) ?_
 intro W base args ds gs before hval hW _ hcond _ hL _ _
 exact contract H enc W base args ds gs before hval hW (hcond _ rfl) (ss_ hL)
theorem said : Rows.NodeUndoesUptoSaid :=
 OpenClaim.holds_of_cond 4 Tryz.f4 rfl rfl rfl rfl rfl rfl rfl ⟨rfl, rfl, rfl, rfl, rfl⟩ rfl rfl rfl rfl rfl (by kernel_rfl) Tryz.func4 (by kernel_rfl)
  (of_decide_eq_true (by kernel_rfl)) (by unfold Func.isWrapper; first | (rw [if_pos (by decide +kernel)]; kernel_rfl) | (rw [if_neg (by decide +kernel)]; exact ⟨rfl, rfl⟩))
  (fun os started H enc _ F => by rw [OpenClaim.pre_eq_preRow]; exact lifted os started H enc F)
theorem plain (f : FuncId) (fn : Func) (hf : Tryz.pinned.checked.prog.funcNamed "wherry/wherrylaw.NodeUndoes" = some f) (hfn : Tryz.pinned.checked.prog.funcs[f]? = some fn) :
 false = Tryz.pinned.checked.prog.looks [] ∧ ∀ (j : Nat) t, fn.params[j]? = some t → Tryz.pinned.checked.prog.wantsStandIn t = false := by
 obtain rfl : f = 4 := Option.some.inj ((show Tryz.prog.funcNamed "wherry/wherrylaw.NodeUndoes" = some 4 by kernel_rfl).symm.trans hf) |>.symm
 obtain rfl : fn = Tryz.f4 := (Option.some.inj (Tryz.func4.symm.trans hfn)).symm
 refine ⟨by kernel_rfl, fun j t ht => ?_⟩
 have hall : (Tryz.f4.params.toList.all fun u => !Tryz.prog.wantsStandIn u) = true := by kernel_rfl
 have hm : t ∈ Tryz.f4.params.toList := by simpa using Array.mem_of_getElem? ht
 exact (show Tryz.prog.wantsStandIn t = false by simpa using List.all_eq_true.1 hall t hm)
theorem card : Rows.NodeUndoesUptoCardSaid :=
 Claim7.holds_tied_plain_at .later [] _ _ _ _ said (fun _ h => by cases h) (by kernel_rfl) (fun _ h => by cases h) nodeUndoesUpto_row_tie rfl ⟨rfl, rfl⟩ (by kernel_rfl) rfl plain (by kernel_rfl)
end nodeUndoes
end Go.Proofs.YtacacoklddogmaaGreatDoor
