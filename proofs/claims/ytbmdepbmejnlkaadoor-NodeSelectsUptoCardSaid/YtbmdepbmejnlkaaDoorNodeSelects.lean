/-
  wherrylaw.NodeSelects returns true for every tree, node and mark, where what it reads is of bulk at most 1048576, and unicode/utf8's two tables are as their text lays them.
-/
import Derived.Test.YtbmdepbmejnlkaaDoorRows
import Derived.Test.YtbmdepbmejnlkaaDoorDoor
import Derived.Test.YtbmdepbmejnlkaaDoorBD
import Derived.Test.YtbmdepbmejnlkaaDoorBN
namespace Go.Proofs.YtbmdepbmejnlkaaDoor
open Go.ChangeShapes Go.WideShapes Go.ChangeAt Go.RowKit
set_option maxRecDepth 100000
namespace nodeSelects
/-- The blocks of a call of the law: the node and the mark. -/
structure ArgsAt (w : World) (nv : Array Value) (a h : Int) (W : World) : Prop where
  nd : W.heap[w.heap.size]? = some (.cells nv 28 (0, 0))
  mc : W.heap[w.heap.size + 1]? = some (.cells #[.int .i64 a, .int .i64 h] 52 (0, 0))
  b : Below w.heap.size w W
  z : w.heap.size + 1 < W.heap.size
theorem ArgsAt.later {w W W' : World} {nv : Array Value} {a h : Int} (k : ArgsAt w nv a h W) (hb : Below W.heap.size W W') : ArgsAt w nv a h W' := by
  have h2 := k.z
  have h3 := hb.size
  exact ⟨(hb.block _ (by omega)).trans k.nd, (hb.block _ (by omega)).trans k.mc, bThen k.b hb, by omega⟩
theorem ArgsAt.new (w : World) (nv : Array Value) (a h : Int) : ArgsAt w nv a h ((w.alloc (.cells nv 28)).alloc (.cells #[.int .i64 a, .int .i64 h] 52)) := by
  refine ⟨(heap_alloc_old _ _ _ (by simp)).trans (World.alloc_heap_new _ _), ?_, bAlloc (bAlloc (Below.refl _ _) _) _, by simp⟩
  have := World.alloc_heap_new (w.alloc (.cells nv 28)) (.cells #[.int .i64 a, .int .i64 h] 52)
  rwa [World.size_alloc] at this
theorem setTurn {W : World} {B : Nat} {m : NodeV} (h : W.heap[B]? = some (.cells #[.int .i64 0, .int .i64 0, .int .i64 0, .bool false, .string ⟨#[]⟩, .slice none 0 0, .slice none 0 0, .slice none 0 0, .slice none 0 0, .slice none 0 0] 35 (0, 0))) (hm : m.InS (fun b => B < b ∧ b < W.heap.size) W) :
    ((((((((((W.setCell ⟨B, 0, none⟩ (.int .i64 m.me)).setCell ⟨B, 1, none⟩ (.int .i64 m.ep)).setCell ⟨B, 2, none⟩ (.int .i64 m.up)).setCell ⟨B, 3, none⟩ (.bool m.rd)).setCell ⟨B, 4, none⟩ (.string m.t)).setCell ⟨B, 5, none⟩ (.slice m.sA m.S.length m.sc)).setCell ⟨B, 6, none⟩ (.slice m.uA m.U.length m.uc)).setCell ⟨B, 7, none⟩ (.slice m.mA m.M.length m.mc)).setCell ⟨B, 8, none⟩ (.slice none 0 0)).setCell ⟨B, 9, none⟩ (.slice none 0 0)).heap[B]? = some (.cells (turnCells m (.slice none 0 0) (.slice none 0 0)) 35 (0, 0)) ∧ m.In ((((((((((W.setCell ⟨B, 0, none⟩ (.int .i64 m.me)).setCell ⟨B, 1, none⟩ (.int .i64 m.ep)).setCell ⟨B, 2, none⟩ (.int .i64 m.up)).setCell ⟨B, 3, none⟩ (.bool m.rd)).setCell ⟨B, 4, none⟩ (.string m.t)).setCell ⟨B, 5, none⟩ (.slice m.sA m.S.length m.sc)).setCell ⟨B, 6, none⟩ (.slice m.uA m.U.length m.uc)).setCell ⟨B, 7, none⟩ (.slice m.mA m.M.length m.mc)).setCell ⟨B, 8, none⟩ (.slice none 0 0)).setCell ⟨B, 9, none⟩ (.slice none 0 0)) ∧ Only B W ((((((((((W.setCell ⟨B, 0, none⟩ (.int .i64 m.me)).setCell ⟨B, 1, none⟩ (.int .i64 m.ep)).setCell ⟨B, 2, none⟩ (.int .i64 m.up)).setCell ⟨B, 3, none⟩ (.bool m.rd)).setCell ⟨B, 4, none⟩ (.string m.t)).setCell ⟨B, 5, none⟩ (.slice m.sA m.S.length m.sc)).setCell ⟨B, 6, none⟩ (.slice m.uA m.U.length m.uc)).setCell ⟨B, 7, none⟩ (.slice m.mA m.M.length m.mc)).setCell ⟨B, 8, none⟩ (.slice none 0 0)).setCell ⟨B, 9, none⟩ (.slice none 0 0)) := by
  have hO : Only B W ((((((((((W.setCell ⟨B, 0, none⟩ (.int .i64 m.me)).setCell ⟨B, 1, none⟩ (.int .i64 m.ep)).setCell ⟨B, 2, none⟩ (.int .i64 m.up)).setCell ⟨B, 3, none⟩ (.bool m.rd)).setCell ⟨B, 4, none⟩ (.string m.t)).setCell ⟨B, 5, none⟩ (.slice m.sA m.S.length m.sc)).setCell ⟨B, 6, none⟩ (.slice m.uA m.U.length m.uc)).setCell ⟨B, 7, none⟩ (.slice m.mA m.M.length m.mc)).setCell ⟨B, 8, none⟩ (.slice none 0 0)).setCell ⟨B, 9, none⟩ (.slice none 0 0)) := (((((((((Only.set _ _ _).trans (Only.set _ _ _)).trans (Only.set _ _ _)).trans (Only.set _ _ _)).trans (Only.set _ _ _)).trans (Only.set _ _ _)).trans (Only.set _ _ _)).trans (Only.set _ _ _)).trans (Only.set _ _ _)).trans (Only.set _ _ _)
  refine ⟨ten_sets h _ _ _ _ _ _ _ _ _ _, ?_, hO⟩
  have h2 := hO.size
  exact (hm.moved (S' := fun b => b < ((((((((((W.setCell ⟨B, 0, none⟩ (.int .i64 m.me)).setCell ⟨B, 1, none⟩ (.int .i64 m.ep)).setCell ⟨B, 2, none⟩ (.int .i64 m.up)).setCell ⟨B, 3, none⟩ (.bool m.rd)).setCell ⟨B, 4, none⟩ (.string m.t)).setCell ⟨B, 5, none⟩ (.slice m.sA m.S.length m.sc)).setCell ⟨B, 6, none⟩ (.slice m.uA m.U.length m.uc)).setCell ⟨B, 7, none⟩ (.slice m.mA m.M.length m.mc)).setCell ⟨B, 8, none⟩ (.slice none 0 0)).setCell ⟨B, 9, none⟩ (.slice none 0 0)).heap.size) fun b hb => ⟨Nat.lt_of_lt_of_le hb.2 h2, hO.block b hb.2 (by have := hb.1; omega)⟩).in_ (fun b hb => hb)
theorem ArgsAt.set {w W W' : World} {nv : Array Value} {a h : Int} {B : Nat} (k : ArgsAt w nv a h W) (hB : w.heap.size + 1 < B) (hO : Only B W W') : ArgsAt w nv a h W' := by
  have h1 := k.z
  have h2 := hO.size
  exact ⟨(hO.block _ (by omega) (by omega)).trans k.nd, (hO.block _ h1 (by omega)).trans k.mc, k.b.trans (hO.below (by omega) (by have := k.b.size; omega)), by omega⟩
set_option maxHeartbeats 1000000 in
theorem walk (w : World) (T : Option Addr) (N Nc : Nat) (zs : List Int) (hz : Sl (· < w.heap.size) w 1 T N (zs.map (Value.int .i64))) (hN : N ≤ 9223372036854775807) (n : NodeV) (a h : Int) (hT : Tabs w) (hi : n.In w) (hm : n.Small) :
    Calls Tryd.prog 6 #[.slice T N Nc, n.val, markV (a, h)] w fun e w' => e = .returned (.bool true) ∧ Below w.heap.size w w' := by
  have HCP := Lib.hid (fun W (hi : n.In W) => NodeCopy_c W n hi hm)
  have HS := Lib.hid (fun W (n1 : NodeV) (hd : n1.d = n.d) hT (hi : n1.In W) hz => Select_c W T N Nc zs n1 a h hT hi (NodeV.Small.of_d hd hm) hz hN)
  have HR := Lib.hid (fun W hT (hi : n.In W) hz => Selected_c W T N Nc zs n a h hT hi hm hz hN)
  have HMID := Lib.hid (fun (n2 : NodeV) (hd : n2.d = selD zs n (a, h)) => sel_mid hm hd)
  have HDD := Lib.hid (fun (n1 : NodeV) (hd : n1.d = n.d) => And.intro (selE_d (zs := zs) hd (a, h)) (selD_d (zs := zs) hd (a, h)))
  have HT := Lib.hid hT
  have HZ := Lib.hid hz
  have HI := Lib.hid hi
  clear hT hz hi hm
  have HA := Lib.hid (ArgsAt.new w #[.int .i64 n.me, .int .i64 n.ep, .int .i64 n.up, .bool n.rd, .string n.t, .slice n.sA n.S.length n.sc, .slice n.uA n.U.length n.uc, .slice n.mA n.M.length n.mc] a h)
  obtain ⟨WA, hWA⟩ : ∃ WA, WA = ((w.alloc (.cells #[.int .i64 n.me, .int .i64 n.ep, .int .i64 n.up, .bool n.rd, .string n.t, .slice n.sA n.S.length n.sc, .slice n.uA n.U.length n.uc, .slice n.mA n.M.length n.mc] 28)).alloc (.cells #[.int .i64 a, .int .i64 h] 52)) := ⟨_, rfl⟩
  rw [← hWA] at HA
  have HW := Lib.hid hWA.symm
  clear hWA
  obtain ⟨n0, n1, n2, n3, n4, n5, n6, n7, nz⟩ := eight_cell HA.out.nd
  obtain ⟨k0, k1, _, _, kz⟩ := two_cell HA.out.mc
  go_enter Tryd.func6, Tryd.ntmps6
  go_wp2_with fail
  rw [HW.out]
  go_region_law (first
    | (go_simp; go_at_call 20; (with_reducible refine (HCP.out _ ?_).mono ?_); exact (HI.out.later HA.out.b).later (by repeat (first | exact Below.refl _ _ | apply bGrow | apply bAlloc | apply Below.drew | apply bDrewN | apply bIter)); rintro r w1 ⟨m1, rfl, hd1, hin1, hb1⟩; have HB1 : Below WA.heap.size WA w1 := bThen (by repeat (first | exact Below.refl _ _ | apply bAlloc | apply Below.drew)) hb1
       have HQ1 := HA.out.later HB1; have HM1 := hin1.in_ (fun b hb => hb.2); obtain ⟨j0, j1, _, _, jz⟩ := two_cell HQ1.mc; obtain ⟨l0, l1, l2, l3, l4, l5, l6, l7, lz⟩ := eight_cell HQ1.nd; first | (have HX1 : w1.heap[WA.heap.size]? = some (.cells #[.int .i64 0, .int .i64 0, .int .i64 0, .bool false, .string ⟨#[]⟩, .slice none 0 0, .slice none 0 0, .slice none 0 0, .slice none 0 0, .slice none 0 0] 35 (0, 0)) := (hb1.block _ (by simp)).trans (World.alloc_heap_new _ _)) | skip)
    | (go_simp; go_at_call 19; (with_reducible refine (HS.out _ m1 hd1 ?_ ?_ ?_).mono ?_); exact (HT.out.later HQ1.b).later (by repeat (first | exact Below.refl _ _ | apply bGrow | apply bAlloc | apply Below.drew | apply bDrewN | apply bIter)); exact HM1.later (by repeat (first | exact Below.refl _ _ | apply bGrow | apply bAlloc | apply Below.drew | apply bDrewN | apply bIter)); exact Sl.later (Sl.later HZ.out HQ1.b) (by repeat (first | exact Below.refl _ _ | apply bGrow | apply bAlloc | apply Below.drew | apply bDrewN | apply bIter)); rintro r w2 ⟨m2, rfl, hd2, hin2, hb2⟩; have HB2 : Below w1.heap.size w1 w2 := bThen (by repeat (first | exact Below.refl _ _ | apply bAlloc | apply Below.drew)) hb2
       have HQ2 := HQ1.later HB2; first
         | (have HX2 : w2.heap[w1.heap.size]? = some (.cells #[.int .i64 0, .int .i64 0, .int .i64 0, .bool false, .string ⟨#[]⟩, .slice none 0 0, .slice none 0 0, .slice none 0 0, .slice none 0 0, .slice none 0 0] 35 (0, 0)) := (hb2.block _ (by simp)).trans (World.alloc_heap_new _ _); obtain ⟨x0, x1, x2, x3, x4, x5, x6, x7, x8, x9, xz⟩ := ten_cell HX2; have F0 := tenF HX2 0; have F1 := tenF HX2 1; have F2 := tenF HX2 2; have F3 := tenF HX2 3; have F4 := tenF HX2 4; have F5 := tenF HX2 5; have F6 := tenF HX2 6; have F7 := tenF HX2 7; have F8 := tenF HX2 8; have F9 := tenF HX2 9)
         | (have HX2 : w2.heap[WA.heap.size]? = some (.cells #[.int .i64 0, .int .i64 0, .int .i64 0, .bool false, .string ⟨#[]⟩, .slice none 0 0, .slice none 0 0, .slice none 0 0, .slice none 0 0, .slice none 0 0] 35 (0, 0)) := (HB2.block _ (by have := HB1.size; have := hb1.size; simp at this; omega)).trans HX1; obtain ⟨x0, x1, x2, x3, x4, x5, x6, x7, x8, x9, xz⟩ := ten_cell HX2; have F0 := tenF HX2 0; have F1 := tenF HX2 1; have F2 := tenF HX2 2; have F3 := tenF HX2 3; have F4 := tenF HX2 4; have F5 := tenF HX2 5; have F6 := tenF HX2 6; have F7 := tenF HX2 7; have F8 := tenF HX2 8; have F9 := tenF HX2 9)
         | skip))
  all_goals (
    first
    | (obtain ⟨B, hB⟩ : ∃ B, B = w2.heap.size := ⟨_, rfl⟩
       rw [← hB]
       refine post_hide (fun G => ArgsAt w #[.int .i64 n.me, .int .i64 n.ep, .int .i64 n.up, .bool n.rd, .string n.t, .slice n.sA n.S.length n.sc, .slice n.uA n.U.length n.uc, .slice n.mA n.M.length n.mc] a h G ∧ NodeV.In G m2 ∧ G.heap[B]? = some (.cells (turnCells m2 (.slice none 0 0) (.slice none 0 0)) 35 (0, 0))) ⟨HQ2.later (bAlloc (Below.refl _ _) _), (hin2.in_ (fun b hb => hb.2)).later (bAlloc (Below.refl _ _) _), by rw [hB]; exact World.alloc_heap_new _ _⟩ ?_)
    | (obtain ⟨B, hB⟩ : ∃ B, B = w1.heap.size := ⟨_, rfl⟩
       rw [← hB] at HX2
       rw [← hB]
       have hq := setTurn (m := m2) HX2 (hin2.moved fun b hb => ⟨⟨by have := hb.1; simp at this; omega, hb.2⟩, rfl⟩)
       refine post_hide (fun G => ArgsAt w #[.int .i64 n.me, .int .i64 n.ep, .int .i64 n.up, .bool n.rd, .string n.t, .slice n.sA n.S.length n.sc, .slice n.uA n.U.length n.uc, .slice n.mA n.M.length n.mc] a h G ∧ NodeV.In G m2 ∧ G.heap[B]? = some (.cells (turnCells m2 (.slice none 0 0) (.slice none 0 0)) 35 (0, 0))) ⟨HQ2.set (by have := HQ1.z; omega) hq.2.2, hq.2.1, hq.1⟩ ?_)
    | (obtain ⟨B, hB⟩ : ∃ B, B = WA.heap.size := ⟨_, rfl⟩
       rw [← hB] at HX2
       rw [← hB]
       have hq := setTurn (m := m2) HX2 (hin2.moved fun b hb => ⟨⟨by have h1 := hb.1; have h2 := hb1.size; simp at h1 h2; omega, hb.2⟩, rfl⟩)
       refine post_hide (fun G => ArgsAt w #[.int .i64 n.me, .int .i64 n.ep, .int .i64 n.up, .bool n.rd, .string n.t, .slice n.sA n.S.length n.sc, .slice n.uA n.U.length n.uc, .slice n.mA n.M.length n.mc] a h G ∧ NodeV.In G m2 ∧ G.heap[B]? = some (.cells (turnCells m2 (.slice none 0 0) (.slice none 0 0)) 35 (0, 0))) ⟨HQ2.set (by have := HA.out.z; omega) hq.2.2, hq.2.1, hq.1⟩ ?_)
    rintro G ⟨g1, g2, g3⟩
    have HG1 := Lib.hid g1
    have HG2 := Lib.hid g2
    have HG3 := Lib.hid g3
    have HM1 := Lib.hid (hd2.trans (HDD.out m1 hd1).2)
    have he := (HDD.out m1 hd1).1
    rw [he]
    clear g1 g2 g3 he hd2
    obtain ⟨n0, n1, n2, n3, n4, n5, n6, n7, nz⟩ := eight_cell HG1.out.nd
    obtain ⟨k0, k1, _, _, kz⟩ := two_cell HG1.out.mc
    have hBG : B < G.heap.size := (Array.getElem?_eq_some_iff.1 HG3.out).1
    have hwB : w.heap.size ≤ B := by rw [hB]; have h1 := HA.out.b.size; have h2 := HB1.size; have h3 := HB2.size; omega
    clear hB
    go_wp2_with fail
    refine (HR.out _ (HT.out.later HG1.out.b) (HI.out.later HG1.out.b) (Sl.later HZ.out HG1.out.b)).mono ?_
    rintro r w3 ⟨m3, rfl, hd3, hin3, hb3⟩
    have HD3 := Lib.hid hd3
    have HI3 := Lib.hid (hin3.in_ (fun b hb => hb.2))
    have HB3 := Lib.hid hb3
    have HI2 := Lib.hid (HG2.out.later hb3)
    have HX3 := Lib.hid ((hb3.block _ hBG).trans HG3.out)
    have hB3 : B < w3.heap.size := by have := hb3.size; omega
    clear hd3 hin3 hb3 n0 n1 n2 n3 n4 n5 n6 n7 nz k0 k1 kz
    obtain ⟨u0, u1, u2, u3, u4, u5, u6, u7, u8, u9, uz⟩ := ten_cell HX3.out
    go_wp2_with fail
    clear u0 u1 u2 u3 u4 u5 u6 u7 u8 u9 uz
    have hbx : Below w3.heap.size w3 (w3.alloc (.cells (turnCells m3 (.slice none 0 0) (.slice none 0 0)) 35)) := bAlloc (Below.refl _ _) _
    refine (sameTurn_none _ m2 m3 (HI2.out.later hbx) (HI3.out.later hbx) (HD3.out.trans HM1.out.symm) (HMID.out m2 HM1.out)).mono ?_
    rintro r w4 ⟨rfl, hb4⟩
    have HF := Lib.hid (bThen (bThen (bThen HG1.out.b HB3.out) hbx) hb4)
    clear hbx hb4
    go_wp2_with fail
    go_ret
    exact ⟨by simp, HF.out⟩)
theorem contract (H : Type) (enc : TypeId × Value → H) (W : World) (base : Nat) (args : Array Value) (ds gs : List (DataW H)) (before : List MemPlace)
    (hval0 : ∀ (j : Nat) t v, Tryd.f6.params[j]? = some t → args[j]? = some v → Value.okWide Tryd.prog W .any base t v)
    (hW : DataW.Whole enc Tryd.prog Tryd.f6.params.toList Rows.nodeSelectsSpec.vars false W args.toList ds gs before) (hk : Rows.uptoSmall H (ds ++ gs) = true) (hT : Tabs W) :
    Calls Tryd.prog 6 args W fun e W' => ∃ v, e = .returned v ∧ Rows.nodeSelectsSpec.post enc Tryd.prog Tryd.f6 false true false false W args v W' := by
  have hval : ∀ (j : Nat) t v, Tryd.f6.params[j]? = some t → args[j]? = some v → Value.okWide Tryd.prog W .any base t v := hval0
  have hW' := hW
  obtain ⟨p, q, hA0, hV, rfl, hfz, hnd⟩ := hW
  have hA : DataW.TrodAll enc Tryd.prog W 0 (fun _ => true) true Tryd.f6.params.toList args.toList ds p := hA0
  rw [Tryd.params6] at hA hval
  obtain ⟨rfl, rfl⟩ := trodVars_none hV
  obtain ⟨v0, vs0, d0, ds0, p0, q0, hargs, rfl, rfl, h0, r0⟩ := trodAll_cons hA
  obtain ⟨v1, vs1, d1, ds1, p1, q1, rfl, rfl, rfl, h1, r1⟩ := trodAll_cons r0
  obtain ⟨v2, vs2, d2, ds2, p2, q2, rfl, rfl, rfl, h2, r2⟩ := trodAll_cons r1
  obtain ⟨rfl, rfl, rfl⟩ := trodAll_nil r2
  obtain rfl : args = #[v0, v1, v2] := by cases args; simp_all
  have hbulk := bulk_small hk
  have hb0 := Nat.le_trans (bulk_mem (show d0 ∈ [d0, d1, d2] ++ [] by simp)) hbulk
  have hb1 := Nat.le_trans (bulk_mem (show d1 ∈ [d0, d1, d2] ++ [] by simp)) hbulk
  have hb2 := Nat.le_trans (bulk_mem (show d2 ∈ [d0, d1, d2] ++ [] by simp)) hbulk
  obtain ⟨T, N, Nc, zs, rfl, hnc, hcm, hz, _⟩ := sl_ints Tryd.underlying23 Tryd.underlying3 (by kernel_rfl) (hval 0 23 v0 rfl rfl) h0
  have hN : N ≤ 9223372036854775807 := by omega
  obtain ⟨cs, rfl, _⟩ := okWide_struct Tryd.underlying28 (hval 1 28 v1 rfl rfl)
  obtain ⟨m, hm⟩ := h1
  obtain ⟨n, hv, hi, hfit⟩ := open_node hm hb1
  obtain ⟨l⟩ := cs
  obtain rfl : l = _ := hv
  obtain ⟨cm, rfl, _⟩ := okWide_struct Tryd.underlying52 (hval 2 52 v2 rfl rfl)
  obtain ⟨mm, hmm⟩ := h2
  obtain ⟨⟨a, h⟩, hq⟩ := open_mark hmm
  obtain ⟨lm⟩ := cm
  obtain rfl : lm = _ := hq
  refine (walk W T N Nc zs hz hN n a h hT hi hfit.small).mono fun e W' ⟨he, hg⟩ => ?_
  subst he
  exact ⟨_, rfl, post_law (tb := 4) laidOut (by kernel_rfl) rfl (by kernel_rfl) Tryd.underlying4 rfl hW' hg⟩
theorem reads (os : Os) {H : Type} (enc : TypeId × Value → H) : ∃ places, DataW.whole enc Tryd.prog ((laidWorld os).forCall (fun _ _ => 0) ⟨#[], #[.slice none 0 0, .agg #[.int .i64 0, .int .i64 0, .int .i64 0, .bool false, .string ⟨#[]⟩, .slice none 0 0, .slice none 0 0, .slice none 0 0], .agg #[.int .i64 0, .int .i64 0]], []⟩).memory Tryd.f6.params.toList Rows.nodeSelectsSpec.vars false #[.slice none 0 0, .agg #[.int .i64 0, .int .i64 0, .int .i64 0, .bool false, .string ⟨#[]⟩, .slice none 0 0, .slice none 0 0, .slice none 0 0], .agg #[.int .i64 0, .int .i64 0]].toList 8 = some ([.nil, .agg [.lit (.int .i64 0), .lit (.int .i64 0), .lit (.int .i64 0), .lit (.bool false), .lit (.string []), .nil, .nil, .nil], .agg [.lit (.int .i64 0), .lit (.int .i64 0)]], [], places) := by
  have hw : (DataW.whole enc Tryd.prog ((laidWorld os).forCall (fun _ _ => 0) ⟨#[], #[.slice none 0 0, .agg #[.int .i64 0, .int .i64 0, .int .i64 0, .bool false, .string ⟨#[]⟩, .slice none 0 0, .slice none 0 0, .slice none 0 0], .agg #[.int .i64 0, .int .i64 0]], []⟩).memory Tryd.f6.params.toList Rows.nodeSelectsSpec.vars false #[.slice none 0 0, .agg #[.int .i64 0, .int .i64 0, .int .i64 0, .bool false, .string ⟨#[]⟩, .slice none 0 0, .slice none 0 0, .slice none 0 0], .agg #[.int .i64 0, .int .i64 0]].toList 8).map (fun x => (x.1, x.2.1)) = some ([.nil, .agg [.lit (.int .i64 0), .lit (.int .i64 0), .lit (.int .i64 0), .lit (.bool false), .lit (.string []), .nil, .nil, .nil], .agg [.lit (.int .i64 0), .lit (.int .i64 0)]], []) := by kernel_rfl
  obtain ⟨⟨x1, x2, x3⟩, hx, hx1⟩ := Option.map_eq_some_iff.1 hw
  simp only [Prod.mk.injEq] at hx1
  obtain ⟨rfl, rfl⟩ := hx1
  exact ⟨x3, hx⟩
theorem lifted (os : Os) (started : os.Started) (H : Type) (enc : TypeId × Value → H) (F : Stop.Interp) :
    ReturnsInHanded {} Tryd.checked os 6 .any ((Rows.OpenSpec.upto Rows.nodeSelectsSpec).preRow enc Tryd.prog Tryd.f6 Rows.nodeSelectsUptoRow.domain false Rows.nodeSelectsUptoRow.laid) (((Rows.OpenSpec.upto Rows.nodeSelectsSpec).at F).post enc Tryd.prog Tryd.f6 false true false false) := by
  obtain ⟨places, hx⟩ := reads os enc
  refine returnsInHanded_of_row (C := Tryd.checked) (s := Rows.OpenSpec.upto Rows.nodeSelectsSpec) own started (by kernel_rfl) Tryd.func6
    (witness_row_atRef (enc := enc) (C := Tryd.checked) false (laidWorld os) #[.slice none 0 0, .agg #[.int .i64 0, .int .i64 0, .int .i64 0, .bool false, .string ⟨#[]⟩, .slice none 0 0, .slice none 0 0, .slice none 0 0], .agg #[.int .i64 0, .int .i64 0]] rfl (by kernel_rfl) (by kernel_rfl) (by kernel_rfl)
      (OpenSpec.preRow_of_cond 8 hx (by kernel_rfl) (fun k hk => by cases hk; kernel_rfl) (by kernel_rfl) (laid_met os _))) ?_
  intro W base args ds gs before hval hW _ hcond _ hL _ _
  exact contract H enc W base args ds gs before hval hW (hcond _ rfl) (tabs_of hL)
theorem said : Rows.NodeSelectsUptoSaid :=
  OpenClaim.holds_of_cond 6 Tryd.f6 rfl rfl rfl rfl rfl rfl rfl ⟨rfl, rfl, rfl, rfl, rfl⟩ rfl rfl rfl rfl rfl (by kernel_rfl) Tryd.func6 (by kernel_rfl)
    (of_decide_eq_true (by kernel_rfl)) (by unfold Func.isWrapper; first | (rw [if_pos (by decide +kernel)]; kernel_rfl) | (rw [if_neg (by decide +kernel)]; exact ⟨rfl, rfl⟩))
    (fun os started H enc _ F => by rw [OpenClaim.pre_eq_preRow]; exact lifted os started H enc F)
theorem plain (f : FuncId) (fn : Func) (hf : Tryd.pinned.checked.prog.funcNamed "wherry/wherrylaw.NodeSelects" = some f) (hfn : Tryd.pinned.checked.prog.funcs[f]? = some fn) :
    false = Tryd.pinned.checked.prog.looks [] ∧ ∀ (j : Nat) t, fn.params[j]? = some t → Tryd.pinned.checked.prog.wantsStandIn t = false := by
  obtain rfl : f = 6 := Option.some.inj ((show Tryd.prog.funcNamed "wherry/wherrylaw.NodeSelects" = some 6 by kernel_rfl).symm.trans hf) |>.symm
  obtain rfl : fn = Tryd.f6 := (Option.some.inj (Tryd.func6.symm.trans hfn)).symm
  refine ⟨by kernel_rfl, fun j t ht => ?_⟩
  have hall : (Tryd.f6.params.toList.all fun u => !Tryd.prog.wantsStandIn u) = true := by kernel_rfl
  have hm : t ∈ Tryd.f6.params.toList := by simpa using Array.mem_of_getElem? ht
  exact (show Tryd.prog.wantsStandIn t = false by simpa using List.all_eq_true.1 hall t hm)
theorem card : Rows.NodeSelectsUptoCardSaid :=
  Claim7.holds_tied_plain_at .later [] _ _ _ _ said (fun _ h => by cases h) (by kernel_rfl) (fun _ h => by cases h) nodeSelectsUpto_row_tie rfl ⟨rfl, rfl⟩ (by kernel_rfl) rfl plain (by kernel_rfl)
end nodeSelects
end Go.Proofs.YtbmdepbmejnlkaaDoor
