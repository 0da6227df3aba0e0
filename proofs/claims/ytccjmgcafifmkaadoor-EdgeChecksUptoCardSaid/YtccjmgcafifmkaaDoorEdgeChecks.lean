/-
  wherrylaw.EdgeChecks returns true for every edge, where what it reads is of bulk at most 1048576, and unicode/utf8's two tables are as their text lays them.
-/
import Derived.Test.YtccjmgcafifmkaaDoorRows
import Derived.Test.YtccjmgcafifmkaaDoorDoor
import Derived.Test.YtccjmgcafifmkaaDoorEdgeOpen
namespace Go.Proofs.YtccjmgcafifmkaaDoor
open Go.ChangeShapes Go.WideShapes Go.ChangeAt Go.RowKit
set_option maxRecDepth 100000
theorem EdgeCheck_c (w : World) (s h : Int) (A : Option Addr) (c : Nat) (L : List OpV) (hT : Tabs w) (hs : OpsIn w A L) (hm : ∀ o ∈ L, o.Small) :
    Calls Tryd.prog 18 #[edgeV s h A L.length c] w fun r w' => r = .returned (.int .i64 (edgeErr s h L)) ∧ Below w.heap.size w w' := by
  by_cases hg : ((0 ≤ s ∧ s ≤ 1048576) ∧ (0 ≤ h ∧ h ≤ 1048576)) ∧ (L.length : Int) ≤ s
  · exact EdgeCheck_loop w s h A c L hg.1.1.1 hg.1.1.2 hg.1.2.1 hg.1.2.2 hg.2 hT hs hm
  · rw [show edgeErr s h L = 9 from if_neg fun k => hg ⟨k.1, k.2.1⟩]
    by_cases h1 : s < 0
    · exact EdgeCheck_head1 w s h A c L h1
    by_cases h2 : 1048576 < s
    · exact EdgeCheck_head2 w s h A c L h2
    by_cases h3 : h < 0
    · exact EdgeCheck_head3 w s h A c L (by omega) (by omega) h3
    by_cases h4 : 1048576 < h
    · exact EdgeCheck_head4 w s h A c L (by omega) (by omega) h4
    exact EdgeCheck_head5 w s h A c L (by omega) (by omega) (by omega) (by omega) (by omega)
theorem EdgeMay_c (w : World) (s h : Int) (A : Option Addr) (c : Nat) (L : List OpV) (hT : Tabs w) (hs : OpsIn w A L) (hm : ∀ o ∈ L, o.Small) :
    Calls Tryd.prog 19 #[edgeV s h A L.length c] w fun r w' => r = .returned (.bool (edgeB s h L)) ∧ Below w.heap.size w w' := by
  by_cases hg : ((0 ≤ s ∧ s ≤ 1048576) ∧ (0 ≤ h ∧ h ≤ 1048576)) ∧ (L.length : Int) ≤ s
  · exact EdgeMay_loop w s h A c L hg.1.1.1 hg.1.1.2 hg.1.2.1 hg.1.2.2 hg.2 hT hs hm
  · rw [show edgeB s h L = false from decide_eq_false fun k => hg ⟨k.1, k.2.1⟩]
    by_cases h1 : s < 0 ∨ 1048576 < s
    · exact EdgeMay_head1 w s h A c L (Lib.hid h1)
    by_cases h2 : h < 0 ∨ 1048576 < h
    · exact EdgeMay_head2 w s h A c L (by omega) (by omega) (Lib.hid h2)
    exact EdgeMay_head3 w s h A c L (by omega) (by omega) (by omega) (by omega) (by omega)
namespace edgeChecks
theorem walk (w : World) (s h : Int) (A : Option Addr) (c : Nat) (L : List OpV) (hT : Tabs w) (hs : OpsIn w A L) (hm : ∀ o ∈ L, o.Small) :
    Calls Tryd.prog 7 #[edgeV s h A L.length c] w fun e w' => e = .returned (.bool true) ∧ Below w.heap.size w w' := by
  have HM := Lib.hid hm
  have HT := Lib.hid hT
  have HS := Lib.hid hs
  clear hm hT hs
  have HC := Lib.hid (fun W => EdgeCheck_c W s h A c L)
  have HR := Lib.hid (fun W => EdgeMay_c W s h A c L)
  by_cases hok : edgeMay s h L
  · rw [show edgeErr s h L = 0 from if_pos hok] at HC
    rw [show edgeB s h L = true from decide_eq_true hok] at HR
    clear hok
    go_enter Tryd.func7, Tryd.ntmps7
    go_wp2_with fail
    refine (HC.out _ (HT.out.later (by repeat (first | exact Below.refl _ _ | apply bGrow | apply bAlloc | apply Below.drew | apply bDrewN | apply bIter))) (HS.out.later (by repeat (first | exact Below.refl _ _ | apply bGrow | apply bAlloc | apply Below.drew | apply bDrewN | apply bIter))) HM.out).mono ?_
    rintro e w1 ⟨rfl, hb1⟩
    obtain ⟨⟨d1, os1⟩, rfl⟩ := beyond_of hb1
    go_wp2_with fail
    refine (HR.out _ (HT.out.later (by repeat (first | exact Below.refl _ _ | apply bGrow | apply bAlloc | apply Below.drew | apply bDrewN | apply bIter))) (HS.out.later (by repeat (first | exact Below.refl _ _ | apply bGrow | apply bAlloc | apply Below.drew | apply bDrewN | apply bIter))) HM.out).mono ?_
    rintro e w2 ⟨rfl, hb2⟩
    obtain ⟨⟨d2, os2⟩, rfl⟩ := beyond_of hb2
    go_wp2
    go_ret
    exact ⟨by simp, (by repeat (first | exact Below.refl _ _ | apply bGrow | apply bAlloc | apply Below.drew | apply bDrewN | apply bIter))⟩
  · rw [show edgeErr s h L = 9 from if_neg hok] at HC
    rw [show edgeB s h L = false from decide_eq_false hok] at HR
    clear hok
    go_enter Tryd.func7, Tryd.ntmps7
    go_wp2_with fail
    refine (HC.out _ (HT.out.later (by repeat (first | exact Below.refl _ _ | apply bGrow | apply bAlloc | apply Below.drew | apply bDrewN | apply bIter))) (HS.out.later (by repeat (first | exact Below.refl _ _ | apply bGrow | apply bAlloc | apply Below.drew | apply bDrewN | apply bIter))) HM.out).mono ?_
    rintro e w1 ⟨rfl, hb1⟩
    obtain ⟨⟨d1, os1⟩, rfl⟩ := beyond_of hb1
    go_wp2_with fail
    refine (HR.out _ (HT.out.later (by repeat (first | exact Below.refl _ _ | apply bGrow | apply bAlloc | apply Below.drew | apply bDrewN | apply bIter))) (HS.out.later (by repeat (first | exact Below.refl _ _ | apply bGrow | apply bAlloc | apply Below.drew | apply bDrewN | apply bIter))) HM.out).mono ?_
    rintro e w2 ⟨rfl, hb2⟩
    obtain ⟨⟨d2, os2⟩, rfl⟩ := beyond_of hb2
    go_wp2
    go_ret
    exact ⟨by simp, (by repeat (first | exact Below.refl _ _ | apply bGrow | apply bAlloc | apply Below.drew | apply bDrewN | apply bIter))⟩
theorem contract (H : Type) (enc : TypeId × Value → H) (W : World) (base : Nat) (args : Array Value) (ds gs : List (DataW H)) (before : List MemPlace)
    (hval0 : ∀ (j : Nat) t v, Tryd.f7.params[j]? = some t → args[j]? = some v → Value.okWide Tryd.prog W .any base t v)
    (hW : DataW.Whole enc Tryd.prog Tryd.f7.params.toList Rows.edgeChecksSpec.vars false W args.toList ds gs before) (hk : Rows.uptoSmall H (ds ++ gs) = true) (hT : Tabs W) :
    Calls Tryd.prog 7 args W fun e W' => ∃ v, e = .returned v ∧ Rows.edgeChecksSpec.post enc Tryd.prog Tryd.f7 false true false false W args v W' := by
  have hval : ∀ (j : Nat) t v, Tryd.f7.params[j]? = some t → args[j]? = some v → Value.okWide Tryd.prog W .any base t v := hval0
  have hW' := hW
  obtain ⟨p, q, hA0, hV, rfl, hfz, hnd⟩ := hW
  have hA : DataW.TrodAll enc Tryd.prog W 0 (fun _ => true) true Tryd.f7.params.toList args.toList ds p := hA0
  rw [Tryd.params7] at hA hval
  obtain ⟨rfl, rfl⟩ := trodVars_none hV
  obtain ⟨v0, vs0, d0, ds0, p0, q0, hargs, rfl, rfl, h0, r0⟩ := trodAll_cons hA
  obtain ⟨rfl, rfl, rfl⟩ := trodAll_nil r0
  obtain rfl : args = #[v0] := by cases args; simp_all
  have hbulk := bulk_small hk
  have hb0 := Nat.le_trans (bulk_mem (show d0 ∈ [d0] ++ [] by simp)) hbulk
  obtain ⟨cs, rfl, _⟩ := okWide_struct Tryd.underlying39 (hval 0 39 v0 rfl rfl)
  obtain ⟨m, hm⟩ := h0
  obtain ⟨s, h, A, c, L, hv, _, _, _, _, hs, _, hfit⟩ := open_edge hm hb0
  obtain ⟨l⟩ := cs
  obtain rfl : l = _ := hv
  refine (walk W s h A c L hT hs (fun o ho => (hfit o ho).small)).mono fun e W' ⟨he, hg⟩ => ?_
  subst he
  exact ⟨_, rfl, post_law (tb := 4) laidOut (by kernel_rfl) rfl (by kernel_rfl) Tryd.underlying4 rfl hW' hg⟩
theorem reads (os : Os) {H : Type} (enc : TypeId × Value → H) : ∃ places, DataW.whole enc Tryd.prog ((laidWorld os).forCall (fun _ _ => 0) ⟨#[], #[.agg #[.int .i64 0, .int .i64 0, .slice none 0 0]], []⟩).memory Tryd.f7.params.toList Rows.edgeChecksSpec.vars false #[.agg #[.int .i64 0, .int .i64 0, .slice none 0 0]].toList 8 = some ([.agg [.lit (.int .i64 0), .lit (.int .i64 0), .nil]], [], places) := by
  have hw : (DataW.whole enc Tryd.prog ((laidWorld os).forCall (fun _ _ => 0) ⟨#[], #[.agg #[.int .i64 0, .int .i64 0, .slice none 0 0]], []⟩).memory Tryd.f7.params.toList Rows.edgeChecksSpec.vars false #[.agg #[.int .i64 0, .int .i64 0, .slice none 0 0]].toList 8).map (fun x => (x.1, x.2.1)) = some ([.agg [.lit (.int .i64 0), .lit (.int .i64 0), .nil]], []) := by kernel_rfl
  obtain ⟨⟨x1, x2, x3⟩, hx, hx1⟩ := Option.map_eq_some_iff.1 hw
  simp only [Prod.mk.injEq] at hx1
  obtain ⟨rfl, rfl⟩ := hx1
  exact ⟨x3, hx⟩
theorem lifted (os : Os) (started : os.Started) (H : Type) (enc : TypeId × Value → H) (F : Stop.Interp) :
    ReturnsInHanded {} Tryd.checked os 7 .any ((Rows.OpenSpec.upto Rows.edgeChecksSpec).preRow enc Tryd.prog Tryd.f7 Rows.edgeChecksUptoRow.domain false Rows.edgeChecksUptoRow.laid) (((Rows.OpenSpec.upto Rows.edgeChecksSpec).at F).post enc Tryd.prog Tryd.f7 false true false false) := by
  obtain ⟨places, hx⟩ := reads os enc
  refine returnsInHanded_of_row (C := Tryd.checked) (s := Rows.OpenSpec.upto Rows.edgeChecksSpec) own started (by kernel_rfl) Tryd.func7
    (witness_row_atRef (enc := enc) (C := Tryd.checked) false (laidWorld os) #[.agg #[.int .i64 0, .int .i64 0, .slice none 0 0]] rfl (by kernel_rfl) (by kernel_rfl) (by kernel_rfl)
      (OpenSpec.preRow_of_cond 8 hx (by kernel_rfl) (fun k hk => by cases hk; kernel_rfl) (by kernel_rfl) (laid_met os _))) ?_
  intro W base args ds gs before hval hW _ hcond _ hL _ _
  exact contract H enc W base args ds gs before hval hW (hcond _ rfl) (tabs_of hL)
theorem said : Rows.EdgeChecksUptoSaid :=
  OpenClaim.holds_of_cond 7 Tryd.f7 rfl rfl rfl rfl rfl rfl rfl ⟨rfl, rfl, rfl, rfl, rfl⟩ rfl rfl rfl rfl rfl (by kernel_rfl) Tryd.func7 (by kernel_rfl)
    (of_decide_eq_true (by kernel_rfl)) (by unfold Func.isWrapper; first | (rw [if_pos (by decide +kernel)]; kernel_rfl) | (rw [if_neg (by decide +kernel)]; exact ⟨rfl, rfl⟩))
    (fun os started H enc _ F => by rw [OpenClaim.pre_eq_preRow]; exact lifted os started H enc F)
theorem plain (f : FuncId) (fn : Func) (hf : Tryd.pinned.checked.prog.funcNamed "wherry/wherrylaw.EdgeChecks" = some f) (hfn : Tryd.pinned.checked.prog.funcs[f]? = some fn) :
    false = Tryd.pinned.checked.prog.looks [] ∧ ∀ (j : Nat) t, fn.params[j]? = some t → Tryd.pinned.checked.prog.wantsStandIn t = false := by
  obtain rfl : f = 7 := Option.some.inj ((show Tryd.prog.funcNamed "wherry/wherrylaw.EdgeChecks" = some 7 by kernel_rfl).symm.trans hf) |>.symm
  obtain rfl : fn = Tryd.f7 := (Option.some.inj (Tryd.func7.symm.trans hfn)).symm
  refine ⟨by kernel_rfl, fun j t ht => ?_⟩
  have hall : (Tryd.f7.params.toList.all fun u => !Tryd.prog.wantsStandIn u) = true := by kernel_rfl
  have hm : t ∈ Tryd.f7.params.toList := by simpa using Array.mem_of_getElem? ht
  exact (show Tryd.prog.wantsStandIn t = false by simpa using List.all_eq_true.1 hall t hm)
theorem card : Rows.EdgeChecksUptoCardSaid :=
  Claim7.holds_tied_plain_at .later [] _ _ _ _ said (fun _ h => by cases h) (by kernel_rfl) (fun _ h => by cases h) edgeChecksUpto_row_tie rfl ⟨rfl, rfl⟩ (by kernel_rfl) rfl plain (by kernel_rfl)
end edgeChecks
end Go.Proofs.YtccjmgcafifmkaaDoor
