/-
  wherrylaw.TextComposes returns true for every two operations, where what it reads is of bulk at most 1048576, and unicode/utf8's two tables are as their text lays them.
-/
import Derived.Test.YtgcapkkgminidaaDoorRows
import Derived.Test.YtgcapkkgminidaaDoorDoor
import Derived.Test.YtgcapkkgminidaaDoorCompR
namespace Go.Proofs.YtgcapkkgminidaaDoor.textComposes
open Go.ChangeShapes Go.WideShapes Go.ChangeAt Go.RowKit
set_option maxRecDepth 100000
theorem len_l (x y : List PartD) : (coL x y).length ≤ 1048576 := by
  unfold coL
  by_cases h : coE x y = 0
  · rw [if_pos h]
    have he : coPre x y = 0 := by
      unfold coE at h
      by_cases q : coPre x y ≠ 0
      · rw [if_pos q] at h
        exact absurd h q
      · exact Classical.not_not.1 q
    obtain ⟨hfx, hfy, _⟩ := coPre_zero he
    obtain ⟨_, hokx, _, _⟩ := opFault_zero hfx
    obtain ⟨_, hoky, _, _⟩ := opFault_zero hfy
    obtain ⟨_, _, nx1, nx2⟩ := op_from hfx
    obtain ⟨_, _, ny1, ny2⟩ := op_from hfy
    have hslx := stepsOf_length hokx
    have hsly := stepsOf_length hoky
    have htl := co_length (stepsOf x) (stepsOf y)
    have h1 := grouped_length (coC x y)
    unfold coC at *
    omega
  · rw [if_neg h]
    simp
theorem walk (w : World) (A B : Option Addr) (c d : Nat) (x y : List PartD) (hT : Tabs w) (hx : OpIn (· < w.heap.size) w A x) (hy : OpIn (· < w.heap.size) w B y) (hxl : x.length ≤ 1048576) (hyl : y.length ≤ 1048576) (hxt : ∀ p ∈ x, p.Fit) (hyt : ∀ p ∈ y, p.Fit) :
    Calls Tryd.prog 4 #[.slice A x.length c, .slice B y.length d] w fun e w' => e = .returned (.bool true) ∧ Below w.heap.size w w' := by
  have h1 := fun W A B c d hT hx hy => Compose_c W A B c d x y hT hx hy hxl hyl (fun p hp => (hxt p hp).text) (fun p hp => (hyt p hp).text)
  have h2 := fun W hT hx hy => Composed_c W A B c d x y hT hx hy hxl hyl (fun p hp => (hxt p hp).text) (fun p hp => (hyt p hp).text)
  unfold RetOneE at h1
  unfold RetOpE at h2
  have H0 := Lib.hid (OpCopy_c w A c x hx hxl)
  have H1 := Lib.hid (fun W hs => OpCopy_c W B d y hs hyl)
  have H2 := Lib.hid h1
  have H3 := Lib.hid h2
  have HT := Lib.hid hT
  have hll := len_l x y
  clear hxt hyt hT h1 h2
  generalize coL x y = U at *
  generalize coE x y = z at *
  go_enter Tryd.func4, Tryd.ntmps4
  go_wp2_with fail
  refine H0.out.mono ?_
  rintro e w1 ⟨A1, c1, rfl, ho1, hb1⟩
  have HA1 := Lib.hid (own_sl' ho1)
  have HB1 := Lib.hid hb1
  clear ho1 hb1
  go_wp2_with fail
  refine (H1.out _ (Sl.later hy HB1.out)).mono ?_
  rintro e w2 ⟨A2, c2, rfl, ho2, hb2⟩
  have HA2 := Lib.hid (Sl.later HA1.out hb2)
  have HB2 := Lib.hid (own_sl' ho2)
  have HW2 := Lib.hid (bThen HB1.out hb2)
  clear ho2 hb2
  go_wp2_with fail
  refine (H2.out _ A1 A2 c1 c2 (HT.out.later HW2.out) HA2.out HB2.out).mono ?_
  rintro e w3 ⟨A3, c3, rfl, hu3, hb3⟩
  have HA3 := Lib.hid (Sl.later HA2.out hb3)
  have HB3 := Lib.hid (Sl.later HB2.out hb3)
  have HW3 := Lib.hid (bThen HW2.out hb3)
  have HU3 := Lib.hid (hu3.keep (S' := (· < w3.heap.size)) (fun _ h => h.2) (fun _ _ => rfl))
  clear hu3 hb3
  go_wp2_with fail
  refine (H3.out _ (HT.out.later HW3.out) (Sl.later hx HW3.out) (Sl.later hy HW3.out)).mono ?_
  rintro e w4 ⟨A4, c4, rfl, hu4, hb4⟩
  have HA4 := Lib.hid (Sl.later HA3.out hb4)
  have HB4 := Lib.hid (Sl.later HB3.out hb4)
  have HW4 := Lib.hid (bThen HW3.out hb4)
  have HU4 := Lib.hid (Sl.later HU3.out hb4)
  have HP4 := Lib.hid (own_sl' hu4)
  clear hu4 hb4
  go_wp2_with fail
  refine (sameOp_c w4 A3 A4 c3 c4 U HU4.out HP4.out hll).mono ?_
  rintro e w6 ⟨rfl, hb6⟩
  have HW6 := Lib.hid hb6
  clear hb6
  go_wp2_with fail
  refine (sameOp_c w6 A1 A c1 c x (Sl.later HA4.out HW6.out) (Sl.later hx (bThen HW4.out HW6.out)) hxl).mono ?_
  rintro e w7 ⟨rfl, hb7⟩
  have HW7 := Lib.hid (bThen HW6.out hb7)
  clear hb7
  go_wp2_with fail
  refine (sameOp_c w7 A2 B c2 d y (Sl.later HB4.out HW7.out) (Sl.later hy (bThen HW4.out HW7.out)) hyl).mono ?_
  rintro e w8 ⟨rfl, hb8⟩
  go_wp2_with fail
  go_ret
  exact ⟨by simp, bThen (bThen HW4.out HW7.out) hb8⟩
theorem contract (H : Type) (enc : TypeId × Value → H) (W : World) (base : Nat) (args : Array Value) (ds gs : List (DataW H)) (before : List MemPlace)
    (hval0 : ∀ (j : Nat) t v, Tryd.f4.params[j]? = some t → args[j]? = some v → Value.okWide Tryd.prog W .any base t v)
    (hW : DataW.Whole enc Tryd.prog Tryd.f4.params.toList Rows.textComposesSpec.vars false W args.toList ds gs before) (hk : Rows.uptoSmall H (ds ++ gs) = true) (hT : Tabs W) :
    Calls Tryd.prog 4 args W fun e W' => ∃ v, e = .returned v ∧ Rows.textComposesSpec.post enc Tryd.prog Tryd.f4 false true false false W args v W' := by
  have hval : ∀ (j : Nat) t v, Tryd.f4.params[j]? = some t → args[j]? = some v → Value.okWide Tryd.prog W .any base t v := hval0
  have hW' := hW
  obtain ⟨p, q, hA0, hV, rfl, hfz, hnd⟩ := hW
  have hA : DataW.TrodAll enc Tryd.prog W 0 (fun _ => true) true Tryd.f4.params.toList args.toList ds p := hA0
  rw [Tryd.params4] at hA hval
  obtain ⟨rfl, rfl⟩ := trodVars_none hV
  obtain ⟨v0, vs0, d0, ds0, p0, q0, hargs, rfl, rfl, h0, r0⟩ := trodAll_cons hA
  obtain ⟨v1, vs1, d1, ds1, p1, q1, rfl, rfl, rfl, h1, r1⟩ := trodAll_cons r0
  obtain ⟨rfl, rfl, rfl⟩ := trodAll_nil r1
  obtain rfl : args = #[v0, v1] := by cases args; simp_all
  have hbulk := bulk_small hk
  have hb0 := Nat.le_trans (bulk_mem (show d0 ∈ [d0, d1] ++ [] by simp)) hbulk
  have hb1 := Nat.le_trans (bulk_mem (show d1 ∈ [d0, d1] ++ [] by simp)) hbulk
  obtain ⟨A0, n0, c0, rfl⟩ := okWide_slice Tryd.underlying23 (hval 0 23 v0 rfl rfl)
  obtain ⟨A1, n1, c1, rfl⟩ := okWide_slice Tryd.underlying23 (hval 1 23 v1 rfl rfl)
  obtain ⟨m, hm⟩ := h0
  obtain ⟨m', hm'⟩ := h1
  obtain ⟨A, c, x, hv, _, _, hx, hxl, hxt⟩ := open_op Tryd.underlying23 hm hb0
  obtain ⟨B, d, y, hv', _, _, hy, hyl, hyt⟩ := open_op Tryd.underlying23 hm' hb1
  rw [hv, hv'] at hW' ⊢
  refine (walk W A B c d x y hT hx hy (Nat.le_trans hxl hb0) (Nat.le_trans hyl hb1) hxt hyt).mono fun e W' ⟨he, hg⟩ => ?_
  subst he
  exact ⟨_, rfl, post_law (tb := 4) laidOut (by kernel_rfl) rfl (by kernel_rfl) Tryd.underlying4 rfl hW' hg⟩
theorem reads (os : Os) {H : Type} (enc : TypeId × Value → H) : ∃ places, DataW.whole enc Tryd.prog ((laidWorld os).forCall (fun _ _ => 0) ⟨#[], #[.slice none 0 0, .slice none 0 0], []⟩).memory Tryd.f4.params.toList Rows.textComposesSpec.vars false #[.slice none 0 0, .slice none 0 0].toList 8 = some ([.nil, .nil], [], places) := by
  have hw : (DataW.whole enc Tryd.prog ((laidWorld os).forCall (fun _ _ => 0) ⟨#[], #[.slice none 0 0, .slice none 0 0], []⟩).memory Tryd.f4.params.toList Rows.textComposesSpec.vars false #[.slice none 0 0, .slice none 0 0].toList 8).map (fun x => (x.1, x.2.1)) = some ([.nil, .nil], []) := by kernel_rfl
  obtain ⟨⟨x1, x2, x3⟩, hx, hx1⟩ := Option.map_eq_some_iff.1 hw
  simp only [Prod.mk.injEq] at hx1
  obtain ⟨rfl, rfl⟩ := hx1
  exact ⟨x3, hx⟩
theorem lifted (os : Os) (started : os.Started) (H : Type) (enc : TypeId × Value → H) (F : Stop.Interp) :
    ReturnsInHanded {} Tryd.checked os 4 .any ((Rows.OpenSpec.upto Rows.textComposesSpec).preRow enc Tryd.prog Tryd.f4 Rows.textComposesUptoRow.domain false Rows.textComposesUptoRow.laid) (((Rows.OpenSpec.upto Rows.textComposesSpec).at F).post enc Tryd.prog Tryd.f4 false true false false) := by
  obtain ⟨places, hx⟩ := reads os enc
  refine returnsInHanded_of_row (C := Tryd.checked) (s := Rows.OpenSpec.upto Rows.textComposesSpec) own started (by kernel_rfl) Tryd.func4
    (witness_row_atRef (enc := enc) (C := Tryd.checked) false (laidWorld os) #[.slice none 0 0, .slice none 0 0] rfl (by kernel_rfl) (by kernel_rfl) (by kernel_rfl)
      (OpenSpec.preRow_of_cond 8 hx (by kernel_rfl) (fun k hk => by cases hk; kernel_rfl) (by kernel_rfl) (laid_met os _))) ?_
  intro W base args ds gs before hval hW _ hcond _ hL _ _
  exact contract H enc W base args ds gs before hval hW (hcond _ rfl) (tabs_of hL)
theorem said : Rows.TextComposesUptoSaid :=
  OpenClaim.holds_of_cond 4 Tryd.f4 rfl rfl rfl rfl rfl rfl rfl ⟨rfl, rfl, rfl, rfl, rfl⟩ rfl rfl rfl rfl rfl (by kernel_rfl) Tryd.func4 (by kernel_rfl)
    (of_decide_eq_true (by kernel_rfl)) (by unfold Func.isWrapper; first | (rw [if_pos (by decide +kernel)]; kernel_rfl) | (rw [if_neg (by decide +kernel)]; exact ⟨rfl, rfl⟩))
    (fun os started H enc _ F => by rw [OpenClaim.pre_eq_preRow]; exact lifted os started H enc F)
theorem plain (f : FuncId) (fn : Func) (hf : Tryd.pinned.checked.prog.funcNamed "wherry/wherrylaw.TextComposes" = some f) (hfn : Tryd.pinned.checked.prog.funcs[f]? = some fn) :
    false = Tryd.pinned.checked.prog.looks [] ∧ ∀ (j : Nat) t, fn.params[j]? = some t → Tryd.pinned.checked.prog.wantsStandIn t = false := by
  obtain rfl : f = 4 := Option.some.inj ((show Tryd.prog.funcNamed "wherry/wherrylaw.TextComposes" = some 4 by kernel_rfl).symm.trans hf) |>.symm
  obtain rfl : fn = Tryd.f4 := (Option.some.inj (Tryd.func4.symm.trans hfn)).symm
  refine ⟨by kernel_rfl, fun j t ht => ?_⟩
  have hall : (Tryd.f4.params.toList.all fun u => !Tryd.prog.wantsStandIn u) = true := by kernel_rfl
  have hm : t ∈ Tryd.f4.params.toList := by simpa using Array.mem_of_getElem? ht
  exact (show Tryd.prog.wantsStandIn t = false by simpa using List.all_eq_true.1 hall t hm)
theorem card : Rows.TextComposesUptoCardSaid :=
  Claim7.holds_tied_plain_at .later [] _ _ _ _ said (fun _ h => by cases h) (by kernel_rfl) (fun _ h => by cases h) textComposesUpto_row_tie rfl ⟨rfl, rfl⟩ (by kernel_rfl) rfl plain (by kernel_rfl)
end Go.Proofs.YtgcapkkgminidaaDoor.textComposes
