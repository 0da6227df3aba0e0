/-
  wherrylaw.LinkTicks returns true for every link, where what it reads is of bulk at most 1048576, and unicode/utf8's two tables are as their text lays them.
-/
import Derived.Test.YtieofljkgmkaiaaDoorRows
import Derived.Test.YtieofljkgmkaiaaDoorDoor
import Derived.Test.YtieofljkgmkaiaaDoorLinkOpen
import Derived.Test.YtieofljkgmkaiaaDoorTicked
namespace Go.Proofs.YtieofljkgmkaiaaDoor
open Go.ChangeShapes Go.WideShapes Go.ChangeAt Go.RowKit Go.Joins Go.Deep
set_option maxRecDepth 100000
theorem tickD_d {l l' : LinkV} (h : l'.d = l.d) : tickD l' = tickD l := by
  have h0 := h
  simp only [LinkV.d, LinkD.mk.injEq] at h
  obtain ⟨h1, h2, h3, h4, h5⟩ := h
  have l1 : l'.s.length = l.s.length := by rw [← List.length_map (f := FrameV.d), h3, List.length_map]
  have h6 : (List.range l.s.length).map (packetD l') = (List.range l.s.length).map (packetD l) := List.map_congr_left fun k hk => packetD_d h0 k (by simpa using hk)
  unfold tickD
  rw [l1, h1, h6]
  unfold bareD
  rw [h1, h5]
theorem tickD_small {l : LinkV} (h : linkMay l) (hm : l.Small) : (tickD l).length ≤ 1048577 ∧ ∀ p ∈ tickD l, p.frame.op.length ≤ 1048576 := by
  have h8 := h.2.1.1
  unfold tickD
  by_cases h0 : l.e = 0
  · rw [if_pos h0]; simp
  rw [if_neg h0]
  by_cases h1 : l.s.length = 0
  · rw [if_pos h1]; simp [bareD]
  rw [if_neg h1]
  refine ⟨by simp; omega, fun p hp => ?_⟩
  obtain ⟨k, hk, rfl⟩ := List.mem_map.1 hp
  have hk' : k < l.s.length := by simpa using hk
  rw [packetD_at l k hk']
  exact (hm.s _ (List.getElem_mem hk')).op.len
namespace linkTicks
set_option maxHeartbeats 1000000 in
/-- The law, where both calls answer these packets and this error. -/
theorem walk_of (w : World) (l : LinkV) (hT : Tabs w) (hi : l.In w) (hm : l.Small) (D : List PacketD) (er : Int) (HD : Hid (D.length ≤ 1048577 ∧ ∀ p ∈ D, p.frame.op.length ≤ 1048576))
    (hC : Hid (∀ (W : World) (l' : LinkV), l'.d = l.d → Tabs W → l'.In W → Calls Tryd.prog 14 #[l'.val] W (RetPks W D er)))
    (hR : Hid (∀ (W : World), Tabs W → l.In W → Calls Tryd.prog 16 #[l.val] W (RetPks W D er))) :
    Calls Tryd.prog 3 #[l.val] w fun e w' => e = .returned (.bool true) ∧ Below w.heap.size w w' := by
  have HT := Lib.hid hT
  have HI := Lib.hid hi
  have HLC := Lib.hid (fun W hi => LinkCopy_c W l hi hm)
  clear hT hi hm
  go_enter Tryd.func3, Tryd.ntmps3
  go_wp2_with fail
  refine (HLC.out _ (HI.out.later (by repeat (first | exact Below.refl _ _ | apply bGrow | apply bAlloc | apply Below.drew | apply bDrewN | apply bIter)))).mono ?_
  rintro e w1 ⟨l', rfl, hd, hi1, hb1⟩
  have HI1 := Lib.hid hi1
  obtain ⟨⟨d1, os1⟩, rfl⟩ := beyond_of hb1
  go_wp2_with fail
  refine (hC.out _ l' hd (HT.out.later (by repeat (first | exact Below.refl _ _ | apply bGrow | apply bAlloc | apply Below.drew | apply bDrewN | apply bIter))) (HI1.out.later (by repeat (first | exact Below.refl _ _ | apply bGrow | apply bAlloc | apply Below.drew | apply bDrewN | apply bIter)))).mono ?_
  rintro e w2 ⟨A2, c2, L2, rfl, hk2, ho2, hb2⟩
  have hl2 : L2.length = D.length := by rw [← hk2, List.length_map]
  rw [hl2]
  have HP2 := Lib.hid ho2.in_
  clear ho2
  obtain ⟨⟨d2, os2⟩, rfl⟩ := beyond_of hb2
  go_wp2_with fail
  refine (hR.out _ (HT.out.later (by repeat (first | exact Below.refl _ _ | apply bGrow | apply bAlloc | apply Below.drew | apply bDrewN | apply bIter))) (HI.out.later (by repeat (first | exact Below.refl _ _ | apply bGrow | apply bAlloc | apply Below.drew | apply bDrewN | apply bIter)))).mono ?_
  rintro e w3 ⟨A3, c3, L3, rfl, hk3, ho3, hb3⟩
  have hl3 : L3.length = D.length := by rw [← hk3, List.length_map]
  rw [hl3]
  have HP3 := Lib.hid ho3.in_
  have HK := Lib.hid (show L3.map PacketV.d = L2.map PacketV.d from hk3.trans hk2.symm)
  have HL := Lib.hid (show ∀ p ∈ L2, p.f.o.ps.length ≤ 1048576 from fun p hp => HD.out.2 p.d (by rw [← hk2]; exact List.mem_map.2 ⟨p, hp, rfl⟩))
  have HN := Lib.hid hl2
  clear hk2 hk3 hl2 hl3 ho3
  obtain ⟨⟨d3, os3⟩, rfl⟩ := beyond_of hb3
  go_wp2_with fail
  refine (samePackets_c _ A2 A3 c2 c3 _ L2 L3 (HP2.out.later (by repeat (first | exact Below.refl _ _ | apply bGrow | apply bAlloc | apply Below.drew | apply bDrewN | apply bIter))) (HP3.out.later (by repeat (first | exact Below.refl _ _ | apply bGrow | apply bAlloc | apply Below.drew | apply bDrewN | apply bIter))) HK.out HN.out HD.out.1 HL.out).mono ?_
  rintro e w4 ⟨rfl, hb4⟩
  obtain ⟨⟨d4, os4⟩, rfl⟩ := beyond_of hb4
  go_wp2_with fail
  go_ret
  exact ⟨by simp, (by repeat (first | exact Below.refl _ _ | apply bGrow | apply bAlloc | apply Below.drew | apply bDrewN | apply bIter))⟩
theorem walk (w : World) (l : LinkV) (hT : Tabs w) (hi : l.In w) (hf : l.Fit) :
    Calls Tryd.prog 3 #[l.val] w fun e w' => e = .returned (.bool true) ∧ Below w.heap.size w w' := by
  have hm := hf.small
  by_cases hk : linkMay l
  · refine walk_of w l hT hi hm (tickD l) 0 (tickD_small hk hm) (fun W l' hd hT hi => ?_) (fun W hT hi => Ticked_ok W l hk hT hi hm)
    have hk' := linkMay_d hd hk
    have hm' := hm.of_d hd
    rw [← tickD_d hd]
    by_cases h0 : l'.e = 0
    · rw [show tickD l' = [] from if_pos h0]
      exact Tick_away W l' hk' h0 hT hi hm'
    · exact Tick_ok W l' hk' h0 hT hi hm'
  · exact walk_of w l hT hi hm [] 9 ⟨by simp, by simp⟩ (fun W l' hd hT hi => Tick_no W l' (fun q => hk (linkMay_d hd.symm q)) hT hi (hm.of_d hd)) (fun W hT hi => Ticked_no W l hk hT hi hm)
theorem contract (H : Type) (enc : TypeId × Value → H) (W : World) (base : Nat) (args : Array Value) (ds gs : List (DataW H)) (before : List MemPlace)
    (hval0 : ∀ (j : Nat) t v, Tryd.f3.params[j]? = some t → args[j]? = some v → Value.okWide Tryd.prog W .any base t v)
    (hW : DataW.Whole enc Tryd.prog Tryd.f3.params.toList Rows.linkTicksSpec.vars false W args.toList ds gs before) (hk : Rows.uptoSmall H (ds ++ gs) = true) (hT : Tabs W) :
    Calls Tryd.prog 3 args W fun e W' => ∃ v, e = .returned v ∧ Rows.linkTicksSpec.post enc Tryd.prog Tryd.f3 false true false false W args v W' := by
  have hval : ∀ (j : Nat) t v, Tryd.f3.params[j]? = some t → args[j]? = some v → Value.okWide Tryd.prog W .any base t v := hval0
  have hW' := hW
  obtain ⟨p, q, hA0, hV, rfl, hfz, hnd⟩ := hW
  have hA : DataW.TrodAll enc Tryd.prog W 0 (fun _ => true) true Tryd.f3.params.toList args.toList ds p := hA0
  rw [Tryd.params3] at hA hval
  obtain ⟨rfl, rfl⟩ := trodVars_none hV
  obtain ⟨v0, vs0, d0, ds0, p0, q0, hargs, rfl, rfl, h0, r0⟩ := trodAll_cons hA
  obtain ⟨rfl, rfl, rfl⟩ := trodAll_nil r0
  obtain rfl : args = #[v0] := by cases args; simp_all
  have hbulk := bulk_small hk
  have hb0 := Nat.le_trans (bulk_mem (show d0 ∈ [d0] ++ [] by simp)) hbulk
  obtain ⟨cs0, rfl, _⟩ := okWide_struct Tryd.underlying24 (hval 0 24 v0 rfl rfl)
  obtain ⟨m0, hm0⟩ := h0
  obtain ⟨l, hv0, hin, hfit⟩ := open_link hm0 hb0
  obtain ⟨l0⟩ := cs0
  obtain rfl : l0 = _ := hv0
  refine (walk W l hT hin hfit).mono fun e W' ⟨he, hg⟩ => ?_
  subst he
  exact ⟨_, rfl, post_law (tb := 4) laidOut (by kernel_rfl) rfl (by kernel_rfl) Tryd.underlying4 rfl hW' hg⟩
theorem reads (os : Os) {H : Type} (enc : TypeId × Value → H) : ∃ places, DataW.whole enc Tryd.prog ((laidWorld os).forCall (fun _ _ => 0) ⟨#[], #[.agg #[.int .i64 0, .int .i64 0, .slice none 0 0, .slice none 0 0, .int .i64 0]], []⟩).memory Tryd.f3.params.toList Rows.linkTicksSpec.vars false #[.agg #[.int .i64 0, .int .i64 0, .slice none 0 0, .slice none 0 0, .int .i64 0]].toList 8 = some ([.agg [.lit (.int .i64 0), .lit (.int .i64 0), .nil, .nil, .lit (.int .i64 0)]], [], places) := by
  have hw : (DataW.whole enc Tryd.prog ((laidWorld os).forCall (fun _ _ => 0) ⟨#[], #[.agg #[.int .i64 0, .int .i64 0, .slice none 0 0, .slice none 0 0, .int .i64 0]], []⟩).memory Tryd.f3.params.toList Rows.linkTicksSpec.vars false #[.agg #[.int .i64 0, .int .i64 0, .slice none 0 0, .slice none 0 0, .int .i64 0]].toList 8).map (fun x => (x.1, x.2.1)) = some ([.agg [.lit (.int .i64 0), .lit (.int .i64 0), .nil, .nil, .lit (.int .i64 0)]], []) := by kernel_rfl
  obtain ⟨⟨x1, x2, x3⟩, hx, hx1⟩ := Option.map_eq_some_iff.1 hw
  simp only [Prod.mk.injEq] at hx1
  obtain ⟨rfl, rfl⟩ := hx1
  exact ⟨x3, hx⟩
theorem lifted (os : Os) (started : os.Started) (H : Type) (enc : TypeId × Value → H) (F : Stop.Interp) :
    ReturnsInHanded {} Tryd.checked os 3 .any ((Rows.OpenSpec.upto Rows.linkTicksSpec).preRow enc Tryd.prog Tryd.f3 Rows.linkTicksUptoRow.domain false Rows.linkTicksUptoRow.laid) (((Rows.OpenSpec.upto Rows.linkTicksSpec).at F).post enc Tryd.prog Tryd.f3 false true false false) := by
  obtain ⟨places, hx⟩ := reads os enc
  refine returnsInHanded_of_row (C := Tryd.checked) (s := Rows.OpenSpec.upto Rows.linkTicksSpec) own started (by kernel_rfl) Tryd.func3
    (witness_row_atRef (enc := enc) (C := Tryd.checked) false (laidWorld os) #[.agg #[.int .i64 0, .int .i64 0, .slice none 0 0, .slice none 0 0, .int .i64 0]] rfl (by kernel_rfl) (by kernel_rfl) (by kernel_rfl)
      (OpenSpec.preRow_of_cond 8 hx (by kernel_rfl) (fun k hk => by cases hk; kernel_rfl) (by kernel_rfl) (laid_met os _))) ?_
  intro W base args ds gs before hval hW _ hcond _ hL _ _
  exact contract H enc W base args ds gs before hval hW (hcond _ rfl) (tabs_of hL)
theorem said : Rows.LinkTicksUptoSaid :=
  OpenClaim.holds_of_cond 3 Tryd.f3 rfl rfl rfl rfl rfl rfl rfl ⟨rfl, rfl, rfl, rfl, rfl⟩ rfl rfl rfl rfl rfl (by kernel_rfl) Tryd.func3 (by kernel_rfl)
    (of_decide_eq_true (by kernel_rfl)) (by unfold Func.isWrapper; first | (rw [if_pos (by decide +kernel)]; kernel_rfl) | (rw [if_neg (by decide +kernel)]; exact ⟨rfl, rfl⟩))
    (fun os started H enc _ F => by rw [OpenClaim.pre_eq_preRow]; exact lifted os started H enc F)
theorem plain (f : FuncId) (fn : Func) (hf : Tryd.pinned.checked.prog.funcNamed "wherry/wherrylaw.LinkTicks" = some f) (hfn : Tryd.pinned.checked.prog.funcs[f]? = some fn) :
    false = Tryd.pinned.checked.prog.looks [] ∧ ∀ (j : Nat) t, fn.params[j]? = some t → Tryd.pinned.checked.prog.wantsStandIn t = false := by
  obtain rfl : f = 3 := Option.some.inj ((show Tryd.prog.funcNamed "wherry/wherrylaw.LinkTicks" = some 3 by kernel_rfl).symm.trans hf) |>.symm
  obtain rfl : fn = Tryd.f3 := (Option.some.inj (Tryd.func3.symm.trans hfn)).symm
  refine ⟨by kernel_rfl, fun j t ht => ?_⟩
  have hall : (Tryd.f3.params.toList.all fun u => !Tryd.prog.wantsStandIn u) = true := by kernel_rfl
  have hm : t ∈ Tryd.f3.params.toList := by simpa using Array.mem_of_getElem? ht
  exact (show Tryd.prog.wantsStandIn t = false by simpa using List.all_eq_true.1 hall t hm)
theorem card : Rows.LinkTicksUptoCardSaid :=
  Claim7.holds_tied_plain_at .later [] _ _ _ _ said (fun _ h => by cases h) (by kernel_rfl) (fun _ h => by cases h) linkTicksUpto_row_tie rfl ⟨rfl, rfl⟩ (by kernel_rfl) rfl plain (by kernel_rfl)
end linkTicks
end Go.Proofs.YtieofljkgmkaiaaDoor
