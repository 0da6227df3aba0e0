/-
  wherrylaw.NodeTicks returns true for every tree and node, where what it reads is of bulk at most 1048576, and unicode/utf8's two tables are as their text lays them.
-/
import Derived.Test.YtbmdepbmejnlkaaDoorRows
import Derived.Test.YtbmdepbmejnlkaaDoorDoor
import Derived.Test.YtbmdepbmejnlkaaDoorBD
import Derived.Test.YtbmdepbmejnlkaaDoorTickC
import Derived.Test.YtbmdepbmejnlkaaDoorSameTurnP
namespace Go.Proofs.YtbmdepbmejnlkaaDoor
open Go.ChangeShapes Go.WideShapes Go.ChangeAt Go.RowKit
set_option maxRecDepth 100000
namespace nodeTicks
/-- The block of a call of the law: the node. -/
structure ArgsAt (w : World) (nv : Array Value) (W : World) : Prop where
  nd : W.heap[w.heap.size]? = some (.cells nv 28 (0, 0))
  b : Below w.heap.size w W
  z : w.heap.size < W.heap.size
theorem ArgsAt.later {w W W' : World} {nv : Array Value} (k : ArgsAt w nv W) (hb : Below W.heap.size W W') : ArgsAt w nv W' := by
  have h2 := k.z
  have h3 := hb.size
  exact ⟨(hb.block _ h2).trans k.nd, bThen k.b hb, by omega⟩
theorem ArgsAt.new (w : World) (nv : Array Value) : ArgsAt w nv (w.alloc (.cells nv 28)) :=
  ⟨World.alloc_heap_new _ _, bAlloc (Below.refl _ _) _, by simp⟩
theorem setTurn {W : World} {B : Nat} {m : NodeV} {A : Option Addr} {c : Nat} {L : List PostV} (P : Value) (h : W.heap[B]? = some (.cells #[.int .i64 0, .int .i64 0, .int .i64 0, .bool false, .string ⟨#[]⟩, .slice none 0 0, .slice none 0 0, .slice none 0 0, .slice none 0 0, .slice none 0 0] 35 (0, 0))) (hm : m.InS (fun b => B < b ∧ b < W.heap.size) W) (hp : PostsOwn W (B + 1) A c L) :
    ((((((((((W.setCell ⟨B, 0, none⟩ (.int .i64 m.me)).setCell ⟨B, 1, none⟩ (.int .i64 m.ep)).setCell ⟨B, 2, none⟩ (.int .i64 m.up)).setCell ⟨B, 3, none⟩ (.bool m.rd)).setCell ⟨B, 4, none⟩ (.string m.t)).setCell ⟨B, 5, none⟩ (.slice m.sA m.S.length m.sc)).setCell ⟨B, 6, none⟩ (.slice m.uA m.U.length m.uc)).setCell ⟨B, 7, none⟩ (.slice m.mA m.M.length m.mc)).setCell ⟨B, 8, none⟩ P).setCell ⟨B, 9, none⟩ (.slice none 0 0)).heap[B]? = some (.cells (turnCells m P (.slice none 0 0)) 35 (0, 0)) ∧ m.In ((((((((((W.setCell ⟨B, 0, none⟩ (.int .i64 m.me)).setCell ⟨B, 1, none⟩ (.int .i64 m.ep)).setCell ⟨B, 2, none⟩ (.int .i64 m.up)).setCell ⟨B, 3, none⟩ (.bool m.rd)).setCell ⟨B, 4, none⟩ (.string m.t)).setCell ⟨B, 5, none⟩ (.slice m.sA m.S.length m.sc)).setCell ⟨B, 6, none⟩ (.slice m.uA m.U.length m.uc)).setCell ⟨B, 7, none⟩ (.slice m.mA m.M.length m.mc)).setCell ⟨B, 8, none⟩ P).setCell ⟨B, 9, none⟩ (.slice none 0 0)) ∧ PostsIn ((((((((((W.setCell ⟨B, 0, none⟩ (.int .i64 m.me)).setCell ⟨B, 1, none⟩ (.int .i64 m.ep)).setCell ⟨B, 2, none⟩ (.int .i64 m.up)).setCell ⟨B, 3, none⟩ (.bool m.rd)).setCell ⟨B, 4, none⟩ (.string m.t)).setCell ⟨B, 5, none⟩ (.slice m.sA m.S.length m.sc)).setCell ⟨B, 6, none⟩ (.slice m.uA m.U.length m.uc)).setCell ⟨B, 7, none⟩ (.slice m.mA m.M.length m.mc)).setCell ⟨B, 8, none⟩ P).setCell ⟨B, 9, none⟩ (.slice none 0 0)) A L ∧ Only B W ((((((((((W.setCell ⟨B, 0, none⟩ (.int .i64 m.me)).setCell ⟨B, 1, none⟩ (.int .i64 m.ep)).setCell ⟨B, 2, none⟩ (.int .i64 m.up)).setCell ⟨B, 3, none⟩ (.bool m.rd)).setCell ⟨B, 4, none⟩ (.string m.t)).setCell ⟨B, 5, none⟩ (.slice m.sA m.S.length m.sc)).setCell ⟨B, 6, none⟩ (.slice m.uA m.U.length m.uc)).setCell ⟨B, 7, none⟩ (.slice m.mA m.M.length m.mc)).setCell ⟨B, 8, none⟩ P).setCell ⟨B, 9, none⟩ (.slice none 0 0)) := by
  have hO : Only B W ((((((((((W.setCell ⟨B, 0, none⟩ (.int .i64 m.me)).setCell ⟨B, 1, none⟩ (.int .i64 m.ep)).setCell ⟨B, 2, none⟩ (.int .i64 m.up)).setCell ⟨B, 3, none⟩ (.bool m.rd)).setCell ⟨B, 4, none⟩ (.string m.t)).setCell ⟨B, 5, none⟩ (.slice m.sA m.S.length m.sc)).setCell ⟨B, 6, none⟩ (.slice m.uA m.U.length m.uc)).setCell ⟨B, 7, none⟩ (.slice m.mA m.M.length m.mc)).setCell ⟨B, 8, none⟩ P).setCell ⟨B, 9, none⟩ (.slice none 0 0)) := (((((((((Only.set _ _ _).trans (Only.set _ _ _)).trans (Only.set _ _ _)).trans (Only.set _ _ _)).trans (Only.set _ _ _)).trans (Only.set _ _ _)).trans (Only.set _ _ _)).trans (Only.set _ _ _)).trans (Only.set _ _ _)).trans (Only.set _ _ _)
  have h2 := hO.size
  refine ⟨ten_sets h _ _ _ _ _ _ _ _ _ _, ?_, PostsOwn.in_ (hp.kept h2 fun b hb hl => hO.block b hl (by omega)), hO⟩
  exact (hm.moved (S' := fun b => b < ((((((((((W.setCell ⟨B, 0, none⟩ (.int .i64 m.me)).setCell ⟨B, 1, none⟩ (.int .i64 m.ep)).setCell ⟨B, 2, none⟩ (.int .i64 m.up)).setCell ⟨B, 3, none⟩ (.bool m.rd)).setCell ⟨B, 4, none⟩ (.string m.t)).setCell ⟨B, 5, none⟩ (.slice m.sA m.S.length m.sc)).setCell ⟨B, 6, none⟩ (.slice m.uA m.U.length m.uc)).setCell ⟨B, 7, none⟩ (.slice m.mA m.M.length m.mc)).setCell ⟨B, 8, none⟩ P).setCell ⟨B, 9, none⟩ (.slice none 0 0)).heap.size) fun b hb => ⟨Nat.lt_of_lt_of_le hb.2 h2, hO.block b hb.2 (by have := hb.1; omega)⟩).in_ (fun b hb => hb)
theorem ArgsAt.set {w W W' : World} {nv : Array Value} {B : Nat} (k : ArgsAt w nv W) (hB : w.heap.size < B) (hO : Only B W W') : ArgsAt w nv W' := by
  have h1 := k.z
  have h2 := hO.size
  exact ⟨(hO.block _ h1 (by omega)).trans k.nd, k.b.trans (hO.below (by omega) (by have := k.b.size; omega)), by omega⟩
set_option maxHeartbeats 1000000 in
theorem walk (w : World) (T : Option Addr) (N Nc : Nat) (zs : List Int) (hz : Sl (· < w.heap.size) w 1 T N (zs.map (Value.int .i64))) (hN : N ≤ 9223372036854775807) (n : NodeV) (hT : Tabs w) (hi : n.In w) (hm : n.Small) :
    Calls Tryd.prog 7 #[.slice T N Nc, n.val] w fun e w' => e = .returned (.bool true) ∧ Below w.heap.size w w' := by
  have HCP := Lib.hid (fun W (hi : n.In W) => NodeCopy_c W n hi hm)
  have HS : Hid (∀ (W : World) (n1 : NodeV), n1.d = n.d → Tabs W → n1.In W → Sl (· < W.heap.size) W 1 T N (zs.map (Value.int .i64)) → Calls Tryd.prog 22 #[.slice T N Nc, n1.val] W (RetTurnK W (tkD zs n) (tkP zs n) (nodeFault zs n))) := Lib.hid (fun W n1 hd hT hi hz => by
    have h := NTick_c W T N Nc zs n1 hT hi (NodeV.Small.of_d hd hm) hz hN
    rw [tkD_d hd, tkP_d hd, nodeFault_d hd] at h
    exact h)
  have HR := Lib.hid (fun W hT (hi : n.In W) hz => NTicked_c W T N Nc zs n hT hi hm hz hN)
  have HMID := Lib.hid (fun (n2 : NodeV) (hd : n2.d = tkD zs n) => tk_mid hm hd)
  have HSM := Lib.hid (tkP_small (zs := zs) hm)
  generalize tkP zs n = D at *
  generalize tkD zs n = d at *
  generalize nodeFault zs n = er at *
  have HT := Lib.hid hT
  have HZ := Lib.hid hz
  have HI := Lib.hid hi
  clear hT hz hi hm
  have HA := Lib.hid (ArgsAt.new w #[.int .i64 n.me, .int .i64 n.ep, .int .i64 n.up, .bool n.rd, .string n.t, .slice n.sA n.S.length n.sc, .slice n.uA n.U.length n.uc, .slice n.mA n.M.length n.mc])
  obtain ⟨WA, hWA⟩ : ∃ WA, WA = w.alloc (.cells #[.int .i64 n.me, .int .i64 n.ep, .int .i64 n.up, .bool n.rd, .string n.t, .slice n.sA n.S.length n.sc, .slice n.uA n.U.length n.uc, .slice n.mA n.M.length n.mc] 28) := ⟨_, rfl⟩
  rw [← hWA] at HA
  have HW := Lib.hid hWA.symm
  clear hWA
  obtain ⟨n0, n1, n2, n3, n4, n5, n6, n7, nz⟩ := eight_cell HA.out.nd
  go_enter Tryd.func7, Tryd.ntmps7
  go_wp2_with fail
  rw [HW.out]
  refine (HCP.out _ (HI.out.later HA.out.b)).mono ?_
  rintro r w1 ⟨m1, rfl, hd1, hin1, hb1⟩
  have HQ1 := Lib.hid (HA.out.later hb1)
  have HM1 := Lib.hid (hin1.in_ (fun b hb => hb.2))
  have HD1 := Lib.hid hd1
  clear hd1 hin1 hb1 n0 n1 n2 n3 n4 n5 n6 n7 nz
  go_wp2_with fail
  refine (HS.out _ m1 HD1.out (HT.out.later HQ1.out.b) HM1.out (Sl.later HZ.out HQ1.out.b)).mono ?_
  rintro r w2 ⟨m2, A2, c2, L2, rfl, hd2, hin2, hl2, hp2, hb2⟩
  have HQ2 := Lib.hid (HQ1.out.later hb2)
  have HI2 := Lib.hid (hin2.in_ (fun b hb => hb.2))
  have HP2 := Lib.hid hp2.in_
  clear hin2 hp2 hb2
  obtain ⟨n0, n1, n2, n3, n4, n5, n6, n7, nz⟩ := eight_cell HQ2.out.nd
  go_wp2_with fail
  obtain ⟨B, hB⟩ : ∃ B, B = w2.heap.size := ⟨_, rfl⟩
  obtain ⟨G, hG⟩ : ∃ G, G = w2.alloc (.cells (turnCells m2 (.slice A2 D.length c2) (.slice none 0 0)) 35) := ⟨_, rfl⟩
  have hbg : Below w2.heap.size w2 G := by rw [hG]; exact bAlloc (Below.refl _ _) _
  have HG1 := Lib.hid (HQ2.out.later hbg)
  have HG2 := Lib.hid (HI2.out.later hbg)
  have HG4 := Lib.hid (HP2.out.later hbg)
  have HG3 : Hid (G.heap[B]? = some (.cells (turnCells m2 (.slice A2 D.length c2) (.slice none 0 0)) 35 (0, 0))) := Lib.hid (by rw [hG, hB]; exact World.alloc_heap_new _ _)
  have HM1 := Lib.hid hd2
  have HL2 := Lib.hid hl2
  clear hd2 hl2 hbg n0 n1 n2 n3 n4 n5 n6 n7 nz
  have hBG : B < G.heap.size := (Array.getElem?_eq_some_iff.1 HG3.out).1
  rw [← hB]
  rw [← hG]
  clear hB hG
  refine (HR.out _ (HT.out.later HG1.out.b) (HI.out.later HG1.out.b) (Sl.later HZ.out HG1.out.b)).mono ?_
  rintro r w3 ⟨m3, A3, c3, L3, rfl, hd3, hin3, hl3, hp3, hb3⟩
  have HD3 := Lib.hid hd3
  have HI3 := Lib.hid (hin3.in_ (fun b hb => hb.2))
  have HP3 := Lib.hid hp3.in_
  have HL3 := Lib.hid hl3
  have HB3 := Lib.hid hb3
  have HI2 := Lib.hid (HG2.out.later hb3)
  have HP2 := Lib.hid (HG4.out.later hb3)
  have HX3 := Lib.hid ((hb3.block _ hBG).trans HG3.out)
  have hB3 : B < w3.heap.size := by have := hb3.size; omega
  clear hd3 hin3 hb3 hl3 hp3
  obtain ⟨u0, u1, u2, u3, u4, u5, u6, u7, u8, u9, uz⟩ := ten_cell HX3.out
  go_wp2_with fail
  clear u0 u1 u2 u3 u4 u5 u6 u7 u8 u9 uz
  have hbx : Below w3.heap.size w3 (w3.alloc (.cells (turnCells m3 (.slice A3 D.length c3) (.slice none 0 0)) 35)) := bAlloc (Below.refl _ _) _
  refine (sameTurn_posts _ m2 m3 A2 A3 c2 c3 D.length L2 L3 (HI2.out.later hbx) (HI3.out.later hbx) (HD3.out.trans HM1.out.symm) (HMID.out m2 HM1.out) (HP2.out.later hbx) (HP3.out.later hbx) (HL3.out.trans HL2.out.symm) (by rw [← HL2.out, List.length_map]) HSM.out.1 (fun x hx => HSM.out.2 x.d (by rw [← HL2.out]; exact List.mem_map.2 ⟨x, hx, rfl⟩))).mono ?_
  rintro r w4 ⟨rfl, hb4⟩
  have HF := Lib.hid (bThen (bThen (bThen HG1.out.b HB3.out) hbx) hb4)
  clear hbx hb4
  go_wp2_with fail
  go_ret
  exact ⟨by simp, HF.out⟩
theorem contract (H : Type) (enc : TypeId × Value → H) (W : World) (base : Nat) (args : Array Value) (ds gs : List (DataW H)) (before : List MemPlace)
    (hval0 : ∀ (j : Nat) t v, Tryd.f7.params[j]? = some t → args[j]? = some v → Value.okWide Tryd.prog W .any base t v)
    (hW : DataW.Whole enc Tryd.prog Tryd.f7.params.toList Rows.nodeTicksSpec.vars false W args.toList ds gs before) (hk : Rows.uptoSmall H (ds ++ gs) = true) (hT : Tabs W) :
    Calls Tryd.prog 7 args W fun e W' => ∃ v, e = .returned v ∧ Rows.nodeTicksSpec.post enc Tryd.prog Tryd.f7 false true false false W args v W' := by
  have hval : ∀ (j : Nat) t v, Tryd.f7.params[j]? = some t → args[j]? = some v → Value.okWide Tryd.prog W .any base t v := hval0
  have hW' := hW
  obtain ⟨p, q, hA0, hV, rfl, hfz, hnd⟩ := hW
  have hA : DataW.TrodAll enc Tryd.prog W 0 (fun _ => true) true Tryd.f7.params.toList args.toList ds p := hA0
  rw [Tryd.params7] at hA hval
  obtain ⟨rfl, rfl⟩ := trodVars_none hV
  obtain ⟨v0, vs0, d0, ds0, p0, q0, hargs, rfl, rfl, h0, r0⟩ := trodAll_cons hA
  obtain ⟨v1, vs1, d1, ds1, p1, q1, rfl, rfl, rfl, h1, r1⟩ := trodAll_cons r0
  obtain ⟨rfl, rfl, rfl⟩ := trodAll_nil r1
  obtain rfl : args = #[v0, v1] := by cases args; simp_all
  have hbulk := bulk_small hk
  have hb0 := Nat.le_trans (bulk_mem (show d0 ∈ [d0, d1] ++ [] by simp)) hbulk
  have hb1 := Nat.le_trans (bulk_mem (show d1 ∈ [d0, d1] ++ [] by simp)) hbulk
  obtain ⟨T, N, Nc, zs, rfl, hnc, hcm, hz, _⟩ := sl_ints Tryd.underlying23 Tryd.underlying3 (by kernel_rfl) (hval 0 23 v0 rfl rfl) h0
  have hN : N ≤ 9223372036854775807 := by omega
  obtain ⟨cs, rfl, _⟩ := okWide_struct Tryd.underlying28 (hval 1 28 v1 rfl rfl)
  obtain ⟨m, hm⟩ := h1
  obtain ⟨n, hv, hi, hfit⟩ := open_node hm hb1
  obtain ⟨l⟩ := cs
  obtain rfl : l = _ := hv
  refine (walk W T N Nc zs hz hN n hT hi hfit.small).mono fun e W' ⟨he, hg⟩ => ?_
  subst he
  exact ⟨_, rfl, post_law (tb := 4) laidOut (by kernel_rfl) rfl (by kernel_rfl) Tryd.underlying4 rfl hW' hg⟩
theorem reads (os : Os) {H : Type} (enc : TypeId × Value → H) : ∃ places, DataW.whole enc Tryd.prog ((laidWorld os).forCall (fun _ _ => 0) ⟨#[], #[.slice none 0 0, .agg #[.int .i64 0, .int .i64 0, .int .i64 0, .bool false, .string ⟨#[]⟩, .slice none 0 0, .slice none 0 0, .slice none 0 0]], []⟩).memory Tryd.f7.params.toList Rows.nodeTicksSpec.vars false #[.slice none 0 0, .agg #[.int .i64 0, .int .i64 0, .int .i64 0, .bool false, .string ⟨#[]⟩, .slice none 0 0, .slice none 0 0, .slice none 0 0]].toList 8 = some ([.nil, .agg [.lit (.int .i64 0), .lit (.int .i64 0), .lit (.int .i64 0), .lit (.bool false), .lit (.string []), .nil, .nil, .nil]], [], places) := by
  have hw : (DataW.whole enc Tryd.prog ((laidWorld os).forCall (fun _ _ => 0) ⟨#[], #[.slice none 0 0, .agg #[.int .i64 0, .int .i64 0, .int .i64 0, .bool false, .string ⟨#[]⟩, .slice none 0 0, .slice none 0 0, .slice none 0 0]], []⟩).memory Tryd.f7.params.toList Rows.nodeTicksSpec.vars false #[.slice none 0 0, .agg #[.int .i64 0, .int .i64 0, .int .i64 0, .bool false, .string ⟨#[]⟩, .slice none 0 0, .slice none 0 0, .slice none 0 0]].toList 8).map (fun x => (x.1, x.2.1)) = some ([.nil, .agg [.lit (.int .i64 0), .lit (.int .i64 0), .lit (.int .i64 0), .lit (.bool false), .lit (.string []), .nil, .nil, .nil]], []) := by kernel_rfl
  obtain ⟨⟨x1, x2, x3⟩, hx, hx1⟩ := Option.map_eq_some_iff.1 hw
  simp only [Prod.mk.injEq] at hx1
  obtain ⟨rfl, rfl⟩ := hx1
  exact ⟨x3, hx⟩
theorem lifted (os : Os) (started : os.Started) (H : Type) (enc : TypeId × Value → H) (F : Stop.Interp) :
    ReturnsInHanded {} Tryd.checked os 7 .any ((Rows.OpenSpec.upto Rows.nodeTicksSpec).preRow enc Tryd.prog Tryd.f7 Rows.nodeTicksUptoRow.domain false Rows.nodeTicksUptoRow.laid) (((Rows.OpenSpec.upto Rows.nodeTicksSpec).at F).post enc Tryd.prog Tryd.f7 false true false false) := by
  obtain ⟨places, hx⟩ := reads os enc
  refine returnsInHanded_of_row (C := Tryd.checked) (s := Rows.OpenSpec.upto Rows.nodeTicksSpec) own started (by kernel_rfl) Tryd.func7
    (witness_row_atRef (enc := enc) (C := Tryd.checked) false (laidWorld os) #[.slice none 0 0, .agg #[.int .i64 0, .int .i64 0, .int .i64 0, .bool false, .string ⟨#[]⟩, .slice none 0 0, .slice none 0 0, .slice none 0 0]] rfl (by kernel_rfl) (by kernel_rfl) (by kernel_rfl)
      (OpenSpec.preRow_of_cond 8 hx (by kernel_rfl) (fun k hk => by cases hk; kernel_rfl) (by kernel_rfl) (laid_met os _))) ?_
  intro W base args ds gs before hval hW _ hcond _ hL _ _
  exact contract H enc W base args ds gs before hval hW (hcond _ rfl) (tabs_of hL)
theorem said : Rows.NodeTicksUptoSaid :=
  OpenClaim.holds_of_cond 7 Tryd.f7 rfl rfl rfl rfl rfl rfl rfl ⟨rfl, rfl, rfl, rfl, rfl⟩ rfl rfl rfl rfl rfl (by kernel_rfl) Tryd.func7 (by kernel_rfl)
    (of_decide_eq_true (by kernel_rfl)) (by unfold Func.isWrapper; first | (rw [if_pos (by decide +kernel)]; kernel_rfl) | (rw [if_neg (by decide +kernel)]; exact ⟨rfl, rfl⟩))
    (fun os started H enc _ F => by rw [OpenClaim.pre_eq_preRow]; exact lifted os started H enc F)
theorem plain (f : FuncId) (fn : Func) (hf : Tryd.pinned.checked.prog.funcNamed "wherry/wherrylaw.NodeTicks" = some f) (hfn : Tryd.pinned.checked.prog.funcs[f]? = some fn) :
    false = Tryd.pinned.checked.prog.looks [] ∧ ∀ (j : Nat) t, fn.params[j]? = some t → Tryd.pinned.checked.prog.wantsStandIn t = false := by
  obtain rfl : f = 7 := Option.some.inj ((show Tryd.prog.funcNamed "wherry/wherrylaw.NodeTicks" = some 7 by kernel_rfl).symm.trans hf) |>.symm
  obtain rfl : fn = Tryd.f7 := (Option.some.inj (Tryd.func7.symm.trans hfn)).symm
  refine ⟨by kernel_rfl, fun j t ht => ?_⟩
  have hall : (Tryd.f7.params.toList.all fun u => !Tryd.prog.wantsStandIn u) = true := by kernel_rfl
  have hm : t ∈ Tryd.f7.params.toList := by simpa using Array.mem_of_getElem? ht
  exact (show Tryd.prog.wantsStandIn t = false by simpa using List.all_eq_true.1 hall t hm)
theorem card : Rows.NodeTicksUptoCardSaid :=
  Claim7.holds_tied_plain_at .later [] _ _ _ _ said (fun _ h => by cases h) (by kernel_rfl) (fun _ h => by cases h) nodeTicksUpto_row_tie rfl ⟨rfl, rfl⟩ (by kernel_rfl) rfl plain (by kernel_rfl)
end nodeTicks
end Go.Proofs.YtbmdepbmejnlkaaDoor
