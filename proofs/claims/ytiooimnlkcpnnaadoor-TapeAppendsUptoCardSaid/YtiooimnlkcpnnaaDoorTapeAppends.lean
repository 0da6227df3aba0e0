/-
  wherrylaw.TapeAppends returns true for every tape and record, where what it reads is of bulk at most 1048576, and unicode/utf8's two tables are as their text lays them.
-/
import Derived.Test.YtiooimnlkcpnnaaDoorRows
import Derived.Test.YtiooimnlkcpnnaaDoorDoor
import Derived.Test.YtiooimnlkcpnnaaDoorOpenB
import Derived.Test.YtiooimnlkcpnnaaDoorAppended
namespace Go.Proofs.YtiooimnlkcpnnaaDoor
open Go.ChangeShapes Go.WideShapes Go.ChangeAt Go.RowKit Go.Joins Go.Deep
set_option maxRecDepth 100000
theorem recordL_len {ep : Int} {ps : List PartD} (ht : ∀ p ∈ ps, p.text.size ≤ 1048576) (hf : recordFault ep ps = 0) : (recordL ep ps).length ≤ 9000000100 := by
  have hr : 0 ≤ ep ∧ ep ≤ 1048576 := by
    rcases Classical.em (ep < 0 ∨ 1048576 < ep) with q | q
    · unfold recordFault at hf
      rw [if_pos q] at hf
      cases hf
    · omega
  unfold recordL
  by_cases h0 : 0 < ep
  · rw [if_pos h0]
    have := sevens_ten (n := ep.toNat) (by omega)
    omega
  · rw [if_neg h0]
    obtain rfl : ep = 0 := by omega
    have hop : opFault ps = 0 := by
      unfold recordFault at hf
      rwa [if_neg (by omega), if_neg (by omega)] at hf
    have h1 := opL_bound (opFault_zero hop).1 (writ_of hop ht)
    have h2 := sevens_ten (n := 0) (by omega)
    rw [List.length_append]
    omega
section
variable {H : Type} {enc : TypeId × Value → H} {w : World} {m : Nat}
theorem open_tapeU {cs : List Value} {y : DataW H × List MemPlace} (h : DataW.trod enc Tryd.prog w 0 (fun _ => true) true m 71 cs = some y) (hb : Rows.uptoBulk y.1 ≤ 1048576) :
    ∃ (A : Option Addr) (c : Nat) (bs : List UInt8) (sy : Int), cs = [.slice A bs.length c, .int .i64 sy] ∧ Sl (· < w.heap.size) w 1 A bs.length (bs.map byteV) ∧ bs.length ≤ 1048576 := by
  obtain ⟨ys, n, hx, _, hl, hf⟩ := open_struct Tryd.underlying71 (by kernel_rfl) (by kernel_rfl) h
  obtain ⟨v0, v1, rfl⟩ := list2 hl
  obtain ⟨_, y0, hc0, hy0, ht0⟩ := hf 0 _ rfl
  obtain ⟨_, y1, hc1, hy1, ht1⟩ := hf 1 _ rfl
  obtain rfl := Option.some.inj hc0
  obtain rfl := Option.some.inj hc1
  obtain ⟨A, c, bs, rfl, _, _, hs, hlen⟩ := sl_bytes Tryd.underlying59 Tryd.underlying5 (by kernel_rfl) ht0
  obtain ⟨sy, rfl, _⟩ := open_num Tryd.underlying3 ht1
  have hb0 := bulk_field hx hb hy0
  refine ⟨A, c, bs, sy, rfl, hs, ?_⟩
  rcases hlen with q | ⟨el, sp, he, hle⟩
  · omega
  · rw [he, bulk_slice] at hb0
    have := bulk_length el
    omega
end
namespace tapeAppends
theorem same3 {W : World} {A2 A3 : Option Addr} {c2 c3 : Nat} {bs : List UInt8} {sy : Int} (h2 : Sl (· < W.heap.size) W 1 A2 bs.length (bs.map byteV)) (h3 : Sl (· < W.heap.size) W 1 A3 bs.length (bs.map byteV)) :
    Calls Tryd.prog 43 #[tapeV A2 bs.length c2 sy, tapeV A3 bs.length c3 sy] W fun e w' => e = .returned (.bool true) ∧ Below W.heap.size W w' := sameTape_c W A2 A3 c2 c3 bs sy h2 h3
set_option maxHeartbeats 1000000 in
/-- The law, where both calls answer these bytes and this error. -/
theorem walk_of (w : World) (A : Option Addr) (c : Nat) (bs : List UInt8) (sy : Int) (hs : Sl (· < w.heap.size) w 1 A bs.length (bs.map byteV)) (hm : bs.length ≤ 140737488351232) (ep : Int) (B : Option Addr) (n cc : Nat) (ps : List PartD) (HT : Hid (Tabs w)) (HP : Hid (OpIn (· < w.heap.size) w B ps)) (rs : List UInt8) (rsy er : Int)
    (hC : Hid (∀ (W : World) (A1 : Option Addr) (c1 : Nat), Tabs W → Sl (· < W.heap.size) W 1 A1 bs.length (bs.map byteV) → OpIn (· < W.heap.size) W B ps → Calls Tryd.prog 41 #[tapeV A1 bs.length c1 sy, recordV ep B n cc] W (RetTapeE W rs rsy er)))
    (hR : Hid (∀ (W : World), Tabs W → Sl (· < W.heap.size) W 1 A bs.length (bs.map byteV) → OpIn (· < W.heap.size) W B ps → Calls Tryd.prog 42 #[tapeV A bs.length c sy, recordV ep B n cc] W (RetTapeE W rs rsy er))) :
    Calls Tryd.prog 10 #[tapeV A bs.length c sy, recordV ep B n cc] w fun e w' => e = .returned (.bool true) ∧ Below w.heap.size w w' := by
  go_enter Tryd.func10, Tryd.ntmps10
  go_wp2_with fail
  refine (tapes_c _ A c bs sy (hs.later (by repeat (first | exact Below.refl _ _ | apply bGrow | apply bAlloc | apply Below.drew | apply bDrewN | apply bIter))) hm).mono ?_
  rintro e w1 ⟨A1, c1, rfl, hown1, hb1⟩
  have hs1 := own_sl hown1
  obtain ⟨⟨d1, os1⟩, rfl⟩ := beyond_of hb1
  go_wp2_with fail
  refine (hC.out _ A1 c1 (HT.out.later (by repeat (first | exact Below.refl _ _ | apply bGrow | apply bAlloc | apply Below.drew | apply bDrewN | apply bIter))) (hs1.later (by repeat (first | exact Below.refl _ _ | apply bGrow | apply bAlloc | apply Below.drew | apply bDrewN | apply bIter))) (Sl.later HP.out (by repeat (first | exact Below.refl _ _ | apply bGrow | apply bAlloc | apply Below.drew | apply bDrewN | apply bIter)))).mono ?_
  rintro e w2 ⟨A2, c2, rfl, ho2, hb2⟩
  have hs2 := own_sl ho2
  obtain ⟨⟨d2, os2⟩, rfl⟩ := beyond_of hb2
  go_wp2_with fail
  refine (hR.out _ (HT.out.later (by repeat (first | exact Below.refl _ _ | apply bGrow | apply bAlloc | apply Below.drew | apply bDrewN | apply bIter))) (hs.later (by repeat (first | exact Below.refl _ _ | apply bGrow | apply bAlloc | apply Below.drew | apply bDrewN | apply bIter))) (Sl.later HP.out (by repeat (first | exact Below.refl _ _ | apply bGrow | apply bAlloc | apply Below.drew | apply bDrewN | apply bIter)))).mono ?_
  rintro e w3 ⟨A3, c3, rfl, ho3, hb3⟩
  have hs3 := own_sl ho3
  obtain ⟨⟨d3, os3⟩, rfl⟩ := beyond_of hb3
  go_wp2_with fail
  refine (same3 (hs2.later (by repeat (first | exact Below.refl _ _ | apply bGrow | apply bAlloc | apply Below.drew | apply bDrewN | apply bIter))) (hs3.later (by repeat (first | exact Below.refl _ _ | apply bGrow | apply bAlloc | apply Below.drew | apply bDrewN | apply bIter)))).mono ?_
  rintro e w4 ⟨rfl, hb4⟩
  obtain ⟨⟨d4, os4⟩, rfl⟩ := beyond_of hb4
  go_wp2_with fail
  refine (same3 (hs1.later (by repeat (first | exact Below.refl _ _ | apply bGrow | apply bAlloc | apply Below.drew | apply bDrewN | apply bIter))) (hs.later (by repeat (first | exact Below.refl _ _ | apply bGrow | apply bAlloc | apply Below.drew | apply bDrewN | apply bIter)))).mono ?_
  rintro e w5 ⟨rfl, hb5⟩
  obtain ⟨⟨d5, os5⟩, rfl⟩ := beyond_of hb5
  go_wp2
  go_ret
  exact ⟨by simp, (by repeat (first | exact Below.refl _ _ | apply bGrow | apply bAlloc | apply Below.drew | apply bDrewN | apply bIter))⟩
theorem walk (w : World) (A : Option Addr) (c : Nat) (bs : List UInt8) (sy : Int) (hs : Sl (· < w.heap.size) w 1 A bs.length (bs.map byteV)) (hm : bs.length ≤ 1048576) (ep : Int) (B : Option Addr) (cc : Nat) (ps : List PartD) (hT : Tabs w) (hop : OpIn (· < w.heap.size) w B ps) (hpl : ps.length ≤ 1048576) (ht : ∀ p ∈ ps, p.Fit) :
    Calls Tryd.prog 10 #[tapeV A bs.length c sy, recordV ep B ps.length cc] w fun e w' => e = .returned (.bool true) ∧ Below w.heap.size w w' := by
  have htt : ∀ p ∈ ps, p.text.size ≤ 1048576 := fun p hp => (ht p hp).text
  by_cases h : tapeOk bs sy
  · have E1 := fun W hT hs => EncodeRecord_c W ep B cc ps hT hs hpl htt
    have E2 := fun W hT hs => RecordBytes_c W ep B cc ps hT hs hpl htt
    by_cases hf : recordFault ep ps = 0
    · rw [if_pos hf, hf] at E1 E2
      have hlen := recordL_len htt hf
      by_cases hb : 8388608 < bs.length + 3 + (recordL ep ps).length
      · exact walk_of w A c bs sy hs (by omega) ep B _ cc ps hT hop [] 0 8
          (fun W A1 c1 hT hs hop => Append_full W A1 c1 bs sy hs h hT ep B cc ps hop _ hlen hb E1) (fun W hT hs hop => Appended_full W A c bs sy hs h hT ep B cc ps hop _ hlen hb E2)
      · exact walk_of w A c bs sy hs (by omega) ep B _ cc ps hT hop _ sy 0
          (fun W A1 c1 hT hs hop => Append_ok W A1 c1 bs sy hs h hT ep B cc ps hop _ (by omega) E1) (fun W hT hs hop => Appended_ok W A c bs sy hs h hT ep B cc ps hop _ (by omega) E2)
    · rw [if_neg hf] at E1 E2
      exact walk_of w A c bs sy hs (by omega) ep B _ cc ps hT hop [] 0 _
        (fun W A1 c1 hT hs hop => Append_rec W A1 c1 bs sy hs h hT ep B cc ps hop _ (by simpa using hf) E1) (fun W hT hs hop => Appended_rec W A c bs sy hs h hT ep B cc ps hop _ (by simpa using hf) E2)
  · exact walk_of w A c bs sy hs (by omega) ep B _ cc ps hT hop [] 0 9
      (fun W A1 c1 _ _ _ => Append_state W A1 c1 bs sy h (by omega) ep B _ cc) (fun W _ _ _ => Appended_state W A c bs sy h ep B _ cc)
theorem contract (H : Type) (enc : TypeId × Value → H) (W : World) (base : Nat) (args : Array Value) (ds gs : List (DataW H)) (before : List MemPlace)
    (hval0 : ∀ (j : Nat) t v, Tryd.f10.params[j]? = some t → args[j]? = some v → Value.okWide Tryd.prog W .any base t v)
    (hW : DataW.Whole enc Tryd.prog Tryd.f10.params.toList Rows.tapeAppendsSpec.vars false W args.toList ds gs before) (hk : Rows.uptoSmall H (ds ++ gs) = true) (hT : Tabs W) :
    Calls Tryd.prog 10 args W fun e W' => ∃ v, e = .returned v ∧ Rows.tapeAppendsSpec.post enc Tryd.prog Tryd.f10 false true false false W args v W' := by
  have hval : ∀ (j : Nat) t v, Tryd.f10.params[j]? = some t → args[j]? = some v → Value.okWide Tryd.prog W .any base t v := hval0
  have hW' := hW
  obtain ⟨p, q, hA0, hV, rfl, hfz, hnd⟩ := hW
  have hA : DataW.TrodAll enc Tryd.prog W 0 (fun _ => true) true Tryd.f10.params.toList args.toList ds p := hA0
  rw [Tryd.params10] at hA hval
  obtain ⟨rfl, rfl⟩ := trodVars_none hV
  obtain ⟨v0, vs0, d0, ds0, p0, q0, hargs, rfl, rfl, h0, r0⟩ := trodAll_cons hA
  obtain ⟨v1, vs1, d1, ds1, p1, q1, rfl, rfl, rfl, h1, r1⟩ := trodAll_cons r0
  obtain ⟨rfl, rfl, rfl⟩ := trodAll_nil r1
  obtain rfl : args = #[v0, v1] := by cases args; simp_all
  have hbulk := bulk_small hk
  have hb0 := Nat.le_trans (bulk_mem (show d0 ∈ [d0, d1] ++ [] by simp)) hbulk
  have hb1 := Nat.le_trans (bulk_mem (show d1 ∈ [d0, d1] ++ [] by simp)) hbulk
  obtain ⟨cs0, rfl, _⟩ := okWide_struct Tryd.underlying71 (hval 0 71 v0 rfl rfl)
  obtain ⟨m0, hm0⟩ := h0
  obtain ⟨A, c, bs, sy, hv0, hs, hm⟩ := open_tapeU hm0 hb0
  obtain ⟨cs1, rfl, _⟩ := okWide_struct Tryd.underlying64 (hval 1 64 v1 rfl rfl)
  obtain ⟨m1, hm1⟩ := h1
  obtain ⟨ep, B, cc, ps, hv1, _, _, _, hop, hpl, ht⟩ := open_record hm1 hb1
  obtain ⟨l0⟩ := cs0
  obtain rfl : l0 = _ := hv0
  obtain ⟨l1⟩ := cs1
  obtain rfl : l1 = _ := hv1
  refine (walk W A c bs sy hs hm ep B cc ps hT hop hpl ht).mono fun e W' ⟨he, hg⟩ => ?_
  subst he
  exact ⟨_, rfl, post_law (tb := 4) laidOut (by kernel_rfl) rfl (by kernel_rfl) Tryd.underlying4 rfl hW' hg⟩
theorem reads (os : Os) {H : Type} (enc : TypeId × Value → H) : ∃ places, DataW.whole enc Tryd.prog ((laidWorld os).forCall (fun _ _ => 0) ⟨#[], #[.agg #[.slice none 0 0, .int .i64 0], .agg #[.int .i64 0, .slice none 0 0]], []⟩).memory Tryd.f10.params.toList Rows.tapeAppendsSpec.vars false #[.agg #[.slice none 0 0, .int .i64 0], .agg #[.int .i64 0, .slice none 0 0]].toList 8 = some ([.agg [.nil, .lit (.int .i64 0)], .agg [.lit (.int .i64 0), .nil]], [], places) := by
  have hw : (DataW.whole enc Tryd.prog ((laidWorld os).forCall (fun _ _ => 0) ⟨#[], #[.agg #[.slice none 0 0, .int .i64 0], .agg #[.int .i64 0, .slice none 0 0]], []⟩).memory Tryd.f10.params.toList Rows.tapeAppendsSpec.vars false #[.agg #[.slice none 0 0, .int .i64 0], .agg #[.int .i64 0, .slice none 0 0]].toList 8).map (fun x => (x.1, x.2.1)) = some ([.agg [.nil, .lit (.int .i64 0)], .agg [.lit (.int .i64 0), .nil]], []) := by kernel_rfl
  obtain ⟨⟨x1, x2, x3⟩, hx, hx1⟩ := Option.map_eq_some_iff.1 hw
  simp only [Prod.mk.injEq] at hx1
  obtain ⟨rfl, rfl⟩ := hx1
  exact ⟨x3, hx⟩
theorem lifted (os : Os) (started : os.Started) (H : Type) (enc : TypeId × Value → H) (F : Stop.Interp) :
    ReturnsInHanded {} Tryd.checked os 10 .any ((Rows.OpenSpec.upto Rows.tapeAppendsSpec).preRow enc Tryd.prog Tryd.f10 Rows.tapeAppendsUptoRow.domain false Rows.tapeAppendsUptoRow.laid) (((Rows.OpenSpec.upto Rows.tapeAppendsSpec).at F).post enc Tryd.prog Tryd.f10 false true false false) := by
  obtain ⟨places, hx⟩ := reads os enc
  refine returnsInHanded_of_row (C := Tryd.checked) (s := Rows.OpenSpec.upto Rows.tapeAppendsSpec) own started (by kernel_rfl) Tryd.func10
    (witness_row_atRef (enc := enc) (C := Tryd.checked) false (laidWorld os) #[.agg #[.slice none 0 0, .int .i64 0], .agg #[.int .i64 0, .slice none 0 0]] rfl (by kernel_rfl) (by kernel_rfl) (by kernel_rfl)
      (OpenSpec.preRow_of_cond 8 hx (by kernel_rfl) (fun k hk => by cases hk; kernel_rfl) (by kernel_rfl) (laid_met os _))) ?_
  intro W base args ds gs before hval hW _ hcond _ hL _ _
  exact contract H enc W base args ds gs before hval hW (hcond _ rfl) (tabs_of hL)
theorem said : Rows.TapeAppendsUptoSaid :=
  OpenClaim.holds_of_cond 10 Tryd.f10 rfl rfl rfl rfl rfl rfl rfl ⟨rfl, rfl, rfl, rfl, rfl⟩ rfl rfl rfl rfl rfl (by kernel_rfl) Tryd.func10 (by kernel_rfl)
    (of_decide_eq_true (by kernel_rfl)) (by unfold Func.isWrapper; first | (rw [if_pos (by decide +kernel)]; kernel_rfl) | (rw [if_neg (by decide +kernel)]; exact ⟨rfl, rfl⟩))
    (fun os started H enc _ F => by rw [OpenClaim.pre_eq_preRow]; exact lifted os started H enc F)
theorem plain (f : FuncId) (fn : Func) (hf : Tryd.pinned.checked.prog.funcNamed "wherry/wherrylaw.TapeAppends" = some f) (hfn : Tryd.pinned.checked.prog.funcs[f]? = some fn) :
    false = Tryd.pinned.checked.prog.looks [] ∧ ∀ (j : Nat) t, fn.params[j]? = some t → Tryd.pinned.checked.prog.wantsStandIn t = false := by
  obtain rfl : f = 10 := Option.some.inj ((show Tryd.prog.funcNamed "wherry/wherrylaw.TapeAppends" = some 10 by kernel_rfl).symm.trans hf) |>.symm
  obtain rfl : fn = Tryd.f10 := (Option.some.inj (Tryd.func10.symm.trans hfn)).symm
  refine ⟨by kernel_rfl, fun j t ht => ?_⟩
  have hall : (Tryd.f10.params.toList.all fun u => !Tryd.prog.wantsStandIn u) = true := by kernel_rfl
  have hm : t ∈ Tryd.f10.params.toList := by simpa using Array.mem_of_getElem? ht
  exact (show Tryd.prog.wantsStandIn t = false by simpa using List.all_eq_true.1 hall t hm)
theorem card : Rows.TapeAppendsUptoCardSaid :=
  Claim7.holds_tied_plain_at .later [] _ _ _ _ said (fun _ h => by cases h) (by kernel_rfl) (fun _ h => by cases h) tapeAppendsUpto_row_tie rfl ⟨rfl, rfl⟩ (by kernel_rfl) rfl plain (by kernel_rfl)
end tapeAppends
end Go.Proofs.YtiooimnlkcpnnaaDoor
