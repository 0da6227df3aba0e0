/-
  wherrylaw.WirePackets returns true for every packet, where what it reads is of bulk at most 1048576, and unicode/utf8's two tables are as their text lays them.
-/
import Derived.Test.YtkelmppfijgecaaDoorRows
import Derived.Test.YtkelmppfijgecaaDoorDoor
import Derived.Test.YtkelmppfijgecaaDoorOpenB
import Derived.Test.YtkelmppfijgecaaDoorPackets
namespace Go.Proofs.YtkelmppfijgecaaDoor
open Go.ChangeShapes Go.WideShapes Go.ChangeAt Go.RowKit Go.Joins Go.Deep
set_option maxRecDepth 100000
theorem list9 {α : Type} {l : List α} (h : l.length = 9) : ∃ a b c d e f g i j, l = [a, b, c, d, e, f, g, i, j] := by
  match l, h with
  | [a, b, c, d, e, f, g, i, j], _ => exact ⟨a, b, c, d, e, f, g, i, j, rfl⟩
section
variable {H : Type} {enc : TypeId × Value → H} {w : World} {m : Nat}
theorem open_packet {cs : List Value} {y : DataW H × List MemPlace} (h : DataW.trod enc Tryd.prog w 0 (fun _ => true) true m 39 cs = some y) (hb : Rows.uptoBulk y.1 ≤ 1048576) :
    ∃ (ep nu : Int) (b : Bool) (ak k hd e : Int) (A : Option Addr) (c : Nat) (ps : List PartD) (s : ByteArray), cs = [.int .i64 ep, .int .i64 nu, .bool b, .int .i64 ak, .int .i64 k, .int .i64 hd, .int .i64 e, .slice A ps.length c, .string s] ∧
      (ps.length ≤ c ∧ c ≤ 9223372036854775807 ∧ OpIn (· < w.heap.size) w A ps ∧ ps.length ≤ 1048576 ∧ ∀ p ∈ ps, p.Fit) ∧ s.size ≤ 1048576 := by
  obtain ⟨ys, n, _, hy, hlen, hyl, hf⟩ := DataW.trod_struct Tryd.underlying39 h
  rw [show Tryd.prog.cellsOf 39 = 9 by kernel_rfl] at hlen
  obtain ⟨c0, c1, c2, c3, c4, c5, c6, c7, c8, rfl⟩ := list9 hlen
  obtain ⟨y0, y1, y2, y3, y4, rfl⟩ := list5 hyl
  have h0 : DataW.trod enc Tryd.prog w 0 (fun _ => true) true n 3 ((List.drop 0 [c0, c1, c2, c3, c4, c5, c6, c7, c8]).take (Tryd.prog.cellsOf 3)) = some y0 := hf 0 _ rfl
  have h1 : DataW.trod enc Tryd.prog w 0 (fun _ => true) true n 3 ((List.drop 1 [c0, c1, c2, c3, c4, c5, c6, c7, c8]).take (Tryd.prog.cellsOf 3)) = some y1 := hf 1 _ rfl
  have h2 : DataW.trod enc Tryd.prog w 0 (fun _ => true) true n 4 ((List.drop 2 [c0, c1, c2, c3, c4, c5, c6, c7, c8]).take (Tryd.prog.cellsOf 4)) = some y2 := hf 2 _ rfl
  have h3 : DataW.trod enc Tryd.prog w 0 (fun _ => true) true n 3 ((List.drop 3 [c0, c1, c2, c3, c4, c5, c6, c7, c8]).take (Tryd.prog.cellsOf 3)) = some y3 := hf 3 _ rfl
  have h4 : DataW.trod enc Tryd.prog w 0 (fun _ => true) true n 37 ((List.drop 4 [c0, c1, c2, c3, c4, c5, c6, c7, c8]).take (Tryd.prog.cellsOf 37)) = some y4 := hf 4 _ rfl
  rw [show Tryd.prog.cellsOf 3 = 1 by kernel_rfl] at h0 h1 h3
  rw [show Tryd.prog.cellsOf 4 = 1 by kernel_rfl] at h2
  rw [show Tryd.prog.cellsOf 37 = 5 by kernel_rfl] at h4
  have h0' : DataW.trod enc Tryd.prog w 0 (fun _ => true) true n 3 [c0] = some y0 := h0
  have h1' : DataW.trod enc Tryd.prog w 0 (fun _ => true) true n 3 [c1] = some y1 := h1
  have h2' : DataW.trod enc Tryd.prog w 0 (fun _ => true) true n 4 [c2] = some y2 := h2
  have h3' : DataW.trod enc Tryd.prog w 0 (fun _ => true) true n 3 [c3] = some y3 := h3
  have h4' : DataW.trod enc Tryd.prog w 0 (fun _ => true) true n 37 [c4, c5, c6, c7, c8] = some y4 := h4
  obtain ⟨ep, rfl, _⟩ := open_num Tryd.underlying3 h0'
  obtain ⟨nu, rfl, _⟩ := open_num Tryd.underlying3 h1'
  obtain ⟨b, e2, _⟩ := DataW.trod_bool Tryd.underlying4 h2'
  have e2' : c2 = .bool b := by simpa using e2
  subst e2'
  obtain ⟨ak, rfl, _⟩ := open_num Tryd.underlying3 h3'
  have hb4 : Rows.uptoBulk y4.1 ≤ 1048576 := by
    rw [hy] at hb
    exact bulk_field (ys := [y0, y1, y2, y3, y4]) rfl hb (j := 4) rfl
  obtain ⟨k, hd, e, A, c, ps, s, hcs, _, _, _, h5, h6⟩ := open_frame h4' hb4
  injection hcs with e4 hcs
  injection hcs with e5 hcs
  injection hcs with e6 hcs
  injection hcs with e7 hcs
  injection hcs with e8 hcs
  subst e4 e5 e6 e7 e8
  exact ⟨ep, nu, b, ak, k, hd, e, A, c, ps, s, rfl, h5, h6⟩
end
namespace wirePackets
theorem walk (w : World) (ep nu : Int) (b : Bool) (ak k h e : Int) (A : Option Addr) (c : Nat) (ps : List PartD) (s : ByteArray) (hT : Tabs w) (hs : OpIn (· < w.heap.size) w A ps) (hm : ps.length ≤ 1048576) (ht : ∀ p ∈ ps, p.Fit) (hst : s.size ≤ 1048576) :
    Calls Tryd.prog 5 #[packetV ep nu b ak k h e A ps.length c s] w fun e w' => e = .returned (.bool true) ∧ Below w.heap.size w w' := by
  have HX := Lib.hid (fun p hp => (ht p hp).text)
  have HT := Lib.hid hT
  clear ht hT
  go_enter Tryd.func5, Tryd.ntmps5
  go_wp2_with fail
  refine (CheckPacket_c _ ep nu b ak k h e A c ps s (HT.out.later (by repeat (first | exact Below.refl _ _ | apply bGrow | apply bAlloc | apply Below.drew | apply bDrewN | apply bIter))) (Sl.later hs (by repeat (first | exact Below.refl _ _ | apply bGrow | apply bAlloc | apply Below.drew | apply bDrewN | apply bIter))) hm HX.out hst).mono ?_
  rintro r w1 ⟨rfl, hb1⟩
  obtain ⟨⟨d1, os1⟩, rfl⟩ := beyond_of hb1
  go_wp2_with fail
  refine (PacketFault_c _ ep nu b ak k h e A c ps s (HT.out.later (by repeat (first | exact Below.refl _ _ | apply bGrow | apply bAlloc | apply Below.drew | apply bDrewN | apply bIter))) (Sl.later hs (by repeat (first | exact Below.refl _ _ | apply bGrow | apply bAlloc | apply Below.drew | apply bDrewN | apply bIter))) hm HX.out hst).mono ?_
  rintro r w2 ⟨rfl, hb2⟩
  obtain ⟨⟨d2, os2⟩, rfl⟩ := beyond_of hb2
  go_wp2
  go_ret
  exact ⟨by simp, (by repeat (first | exact Below.refl _ _ | apply bGrow | apply bAlloc | apply Below.drew | apply bDrewN | apply bIter))⟩
theorem contract (H : Type) (enc : TypeId × Value → H) (W : World) (base : Nat) (args : Array Value) (ds gs : List (DataW H)) (before : List MemPlace)
    (hval0 : ∀ (j : Nat) t v, Tryd.f5.params[j]? = some t → args[j]? = some v → Value.okWide Tryd.prog W .any base t v)
    (hW : DataW.Whole enc Tryd.prog Tryd.f5.params.toList Rows.wirePacketsSpec.vars false W args.toList ds gs before) (hk : Rows.uptoSmall H (ds ++ gs) = true) (hT : Tabs W) :
    Calls Tryd.prog 5 args W fun e W' => ∃ v, e = .returned v ∧ Rows.wirePacketsSpec.post enc Tryd.prog Tryd.f5 false true false false W args v W' := by
  have hval : ∀ (j : Nat) t v, Tryd.f5.params[j]? = some t → args[j]? = some v → Value.okWide Tryd.prog W .any base t v := hval0
  have hW' := hW
  obtain ⟨p, q, hA0, hV, rfl, hfz, hnd⟩ := hW
  have hA : DataW.TrodAll enc Tryd.prog W 0 (fun _ => true) true Tryd.f5.params.toList args.toList ds p := hA0
  rw [Tryd.params5] at hA hval
  obtain ⟨rfl, rfl⟩ := trodVars_none hV
  obtain ⟨v0, vs0, d0, ds0, p0, q0, hargs, rfl, rfl, h0, r0⟩ := trodAll_cons hA
  obtain ⟨rfl, rfl, rfl⟩ := trodAll_nil r0
  obtain rfl : args = #[v0] := by cases args; simp_all
  have hbulk := bulk_small hk
  have hb0 := Nat.le_trans (bulk_mem (show d0 ∈ [d0] ++ [] by simp)) hbulk
  obtain ⟨cs, rfl, _⟩ := okWide_struct Tryd.underlying39 (hval 0 39 v0 rfl rfl)
  obtain ⟨m, hm⟩ := h0
  obtain ⟨ep, nu, b, ak, k, h, e, A, c, ps, s, hv, ⟨_, _, hs, hpl, ht⟩, hst⟩ := open_packet hm hb0
  obtain ⟨l⟩ := cs
  obtain rfl : l = _ := hv
  refine (walk W ep nu b ak k h e A c ps s hT hs hpl ht hst).mono fun e W' ⟨he, hg⟩ => ?_
  subst he
  exact ⟨_, rfl, post_law (tb := 4) laidOut (by kernel_rfl) rfl (by kernel_rfl) Tryd.underlying4 rfl hW' hg⟩
theorem reads (os : Os) {H : Type} (enc : TypeId × Value → H) : ∃ places, DataW.whole enc Tryd.prog ((laidWorld os).forCall (fun _ _ => 0) ⟨#[], #[.agg #[.int .i64 0, .int .i64 0, .bool false, .int .i64 0, .int .i64 0, .int .i64 0, .int .i64 0, .slice none 0 0, .string ⟨#[]⟩]], []⟩).memory Tryd.f5.params.toList Rows.wirePacketsSpec.vars false #[.agg #[.int .i64 0, .int .i64 0, .bool false, .int .i64 0, .int .i64 0, .int .i64 0, .int .i64 0, .slice none 0 0, .string ⟨#[]⟩]].toList 8 = some ([.agg [.lit (.int .i64 0), .lit (.int .i64 0), .lit (.bool false), .lit (.int .i64 0), .agg [.lit (.int .i64 0), .lit (.int .i64 0), .lit (.int .i64 0), .nil, .lit (.string [])]]], [], places) := by
  have hw : (DataW.whole enc Tryd.prog ((laidWorld os).forCall (fun _ _ => 0) ⟨#[], #[.agg #[.int .i64 0, .int .i64 0, .bool false, .int .i64 0, .int .i64 0, .int .i64 0, .int .i64 0, .slice none 0 0, .string ⟨#[]⟩]], []⟩).memory Tryd.f5.params.toList Rows.wirePacketsSpec.vars false #[.agg #[.int .i64 0, .int .i64 0, .bool false, .int .i64 0, .int .i64 0, .int .i64 0, .int .i64 0, .slice none 0 0, .string ⟨#[]⟩]].toList 8).map (fun x => (x.1, x.2.1)) = some ([.agg [.lit (.int .i64 0), .lit (.int .i64 0), .lit (.bool false), .lit (.int .i64 0), .agg [.lit (.int .i64 0), .lit (.int .i64 0), .lit (.int .i64 0), .nil, .lit (.string [])]]], []) := by kernel_rfl
  obtain ⟨⟨x1, x2, x3⟩, hx, hx1⟩ := Option.map_eq_some_iff.1 hw
  simp only [Prod.mk.injEq] at hx1
  obtain ⟨rfl, rfl⟩ := hx1
  exact ⟨x3, hx⟩
theorem lifted (os : Os) (started : os.Started) (H : Type) (enc : TypeId × Value → H) (F : Stop.Interp) :
    ReturnsInHanded {} Tryd.checked os 5 .any ((Rows.OpenSpec.upto Rows.wirePacketsSpec).preRow enc Tryd.prog Tryd.f5 Rows.wirePacketsUptoRow.domain false Rows.wirePacketsUptoRow.laid) (((Rows.OpenSpec.upto Rows.wirePacketsSpec).at F).post enc Tryd.prog Tryd.f5 false true false false) := by
  obtain ⟨places, hx⟩ := reads os enc
  refine returnsInHanded_of_row (C := Tryd.checked) (s := Rows.OpenSpec.upto Rows.wirePacketsSpec) own started (by kernel_rfl) Tryd.func5
    (witness_row_atRef (enc := enc) (C := Tryd.checked) false (laidWorld os) #[.agg #[.int .i64 0, .int .i64 0, .bool false, .int .i64 0, .int .i64 0, .int .i64 0, .int .i64 0, .slice none 0 0, .string ⟨#[]⟩]] rfl (by kernel_rfl) (by kernel_rfl) (by kernel_rfl)
      (OpenSpec.preRow_of_cond 8 hx (by kernel_rfl) (fun k hk => by cases hk; kernel_rfl) (by kernel_rfl) (laid_met os _))) ?_
  intro W base args ds gs before hval hW _ hcond _ hL _ _
  exact contract H enc W base args ds gs before hval hW (hcond _ rfl) (tabs_of hL)
theorem said : Rows.WirePacketsUptoSaid :=
  OpenClaim.holds_of_cond 5 Tryd.f5 rfl rfl rfl rfl rfl rfl rfl ⟨rfl, rfl, rfl, rfl, rfl⟩ rfl rfl rfl rfl rfl (by kernel_rfl) Tryd.func5 (by kernel_rfl)
    (of_decide_eq_true (by kernel_rfl)) (by unfold Func.isWrapper; first | (rw [if_pos (by decide +kernel)]; kernel_rfl) | (rw [if_neg (by decide +kernel)]; exact ⟨rfl, rfl⟩))
    (fun os started H enc _ F => by rw [OpenClaim.pre_eq_preRow]; exact lifted os started H enc F)
theorem plain (f : FuncId) (fn : Func) (hf : Tryd.pinned.checked.prog.funcNamed "wherry/wherrylaw.WirePackets" = some f) (hfn : Tryd.pinned.checked.prog.funcs[f]? = some fn) :
    false = Tryd.pinned.checked.prog.looks [] ∧ ∀ (j : Nat) t, fn.params[j]? = some t → Tryd.pinned.checked.prog.wantsStandIn t = false := by
  obtain rfl : f = 5 := Option.some.inj ((show Tryd.prog.funcNamed "wherry/wherrylaw.WirePackets" = some 5 by kernel_rfl).symm.trans hf) |>.symm
  obtain rfl : fn = Tryd.f5 := (Option.some.inj (Tryd.func5.symm.trans hfn)).symm
  refine ⟨by kernel_rfl, fun j t ht => ?_⟩
  have hall : (Tryd.f5.params.toList.all fun u => !Tryd.prog.wantsStandIn u) = true := by kernel_rfl
  have hm : t ∈ Tryd.f5.params.toList := by simpa using Array.mem_of_getElem? ht
  exact (show Tryd.prog.wantsStandIn t = false by simpa using List.all_eq_true.1 hall t hm)
theorem card : Rows.WirePacketsUptoCardSaid :=
  Claim7.holds_tied_plain_at .later [] _ _ _ _ said (fun _ h => by cases h) (by kernel_rfl) (fun _ h => by cases h) wirePacketsUpto_row_tie rfl ⟨rfl, rfl⟩ (by kernel_rfl) rfl plain (by kernel_rfl)
end wirePackets
end Go.Proofs.YtkelmppfijgecaaDoor
