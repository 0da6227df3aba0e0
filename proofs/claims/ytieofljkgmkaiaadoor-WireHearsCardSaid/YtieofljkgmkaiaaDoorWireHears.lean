/-
  wherrylaw.WireHears returns true for every byte slice, where unicode/utf8's two tables are as their text lays them.
-/
import Derived.Test.YtieofljkgmkaiaaDoorRows
import Derived.Test.YtieofljkgmkaiaaDoorDoor
import Derived.Test.YtieofljkgmkaiaaDoorSamePk
import Derived.Test.YtieofljkgmkaiaaDoorPkC
import Derived.JoinedOf
import Derived.Handed
namespace Go.Proofs.YtieofljkgmkaiaaDoor
open Go.ChangeShapes Go.WideShapes Go.ChangeAt Go.RowKit Go.Joins Go.Deep
set_option maxRecDepth 100000
namespace wireHears
set_option maxHeartbeats 1000000 in
theorem walk (w : World) (A : Option Addr) (c : Nat) (bs : List UInt8) (hs : Sl (· < w.heap.size) w 1 A bs.length (bs.map byteV)) (hm : bs.length ≤ 140737488351232) (hc : bs.length ≤ c ∧ c ≤ 9223372036854775807) (hT : Tabs w) :
    Calls Tryd.prog 10 #[.slice A bs.length c] w fun e w' => e = .returned (.bool true) ∧ Below w.heap.size w w' := by
  have H1 := Lib.hid (fun W A1 c1 (h : Sl (· < W.heap.size) W 1 A1 bs.length (bs.map byteV)) hT => DecodePacket_c W A1 c1 bs h hT)
  have H2 := Lib.hid (fun W (h : Sl (· < W.heap.size) W 1 A bs.length (bs.map byteV)) hT => PacketOf_c W A c bs h hT hc)
  have HT := Lib.hid hT
  have hlen := readPk_len bs
  generalize readPk bs = x at *
  obtain ⟨⟨ep, nu, b, ak, ⟨k, h, e, ps, s⟩⟩, er⟩ := x
  unfold RetPk at H1 H2
  dsimp only at H1 H2 hlen
  clear hT
  go_enter Tryd.func10, Tryd.ntmps10
  go_wp2_with fail
  refine (octets_c _ A c bs (Sl.later hs (by repeat (first | exact Below.refl _ _ | apply bGrow | apply bAlloc | apply Below.drew | apply bDrewN | apply bIter))) hm).mono ?_
  rintro r w1 ⟨A1, c1, rfl, ho1, hb1⟩
  have HS1 := Lib.hid (own_sl ho1)
  have HB1 := Lib.hid (bThen (show Below w.heap.size w _ from (by repeat (first | exact Below.refl _ _ | apply bGrow | apply bAlloc | apply Below.drew | apply bDrewN | apply bIter))) hb1)
  clear ho1 hb1
  go_wp2_with fail
  refine (H1.out _ A1 c1 (Sl.later HS1.out (by repeat (first | exact Below.refl _ _ | apply bGrow | apply bAlloc | apply Below.drew | apply bDrewN | apply bIter))) (HT.out.later (bThen HB1.out (by repeat (first | exact Below.refl _ _ | apply bGrow | apply bAlloc | apply Below.drew | apply bDrewN | apply bIter))))).mono ?_
  rintro r w2 ⟨A2, c2, rfl, ho2, hb2⟩
  have HO2 := Lib.hid (show OpIn (· < w2.heap.size) w2 A2 ps from ho2.keep (fun b hb => hb.2) (fun _ _ => rfl))
  have HB2 := Lib.hid (bThen HB1.out (bThen (by repeat (first | exact Below.refl _ _ | apply bGrow | apply bAlloc | apply Below.drew | apply bDrewN | apply bIter)) hb2))
  clear ho2 hb2
  go_wp2_with fail
  refine (H2.out _ (Sl.later hs (bThen HB2.out (by repeat (first | exact Below.refl _ _ | apply bGrow | apply bAlloc | apply Below.drew | apply bDrewN | apply bIter)))) (HT.out.later (bThen HB2.out (by repeat (first | exact Below.refl _ _ | apply bGrow | apply bAlloc | apply Below.drew | apply bDrewN | apply bIter))))).mono ?_
  rintro r w3 ⟨A3, c3, rfl, ho3, hb3⟩
  have HO3 := Lib.hid (show OpIn (· < w3.heap.size) w3 A3 ps from ho3.keep (fun b hb => hb.2) (fun _ _ => rfl))
  have HP3 := Lib.hid (show PacketAt w3 w2.heap.size ep nu b ak k h e A2 ps.length c2 s from (hb3.block _ (by simp)).trans (heap_alloc_new _ _))
  have HB3 := Lib.hid (bThen (show Below w2.heap.size w2 _ from (by repeat (first | exact Below.refl _ _ | apply bGrow | apply bAlloc | apply Below.drew | apply bDrewN | apply bIter))) hb3)
  have HO23 := Lib.hid (Sl.later HO2.out HB3.out)
  have HB03 := Lib.hid (bThen HB2.out HB3.out)
  obtain ⟨x0, x1, x2, x3, x4, x5, x6, x7, x8, y0, y1, y2, y3, y4, y5, y6, y7, y8, hxz⟩ := nine_cell HP3.out
  clear ho3 hb3
  go_wp2_with fail
  refine (samePacket_c _ ep nu b ak k h e A2 A3 c2 c3 ps s (Sl.later HO23.out (by repeat (first | exact Below.refl _ _ | apply bGrow | apply bAlloc | apply Below.drew | apply bDrewN | apply bIter))) (Sl.later HO3.out (by repeat (first | exact Below.refl _ _ | apply bGrow | apply bAlloc | apply Below.drew | apply bDrewN | apply bIter))) hlen).mono ?_
  rintro r w4 ⟨rfl, hb4⟩
  go_wp2_with fail
  go_ret
  exact ⟨by simp, bThen HB03.out (bThen (by repeat (first | exact Below.refl _ _ | apply bGrow | apply bAlloc | apply Below.drew | apply bDrewN | apply bIter)) hb4)⟩
theorem contract (H : Type) (enc : TypeId × Value → H) (W : World) (base : Nat) (args : Array Value) (ds gs : List (DataW H)) (before : List MemPlace)
    (hval0 : ∀ (j : Nat) t v, Tryd.f10.params[j]? = some t → args[j]? = some v → Value.okWide Tryd.prog W .any base t v)
    (hW : DataW.Whole enc Tryd.prog Tryd.f10.params.toList Rows.wireHearsSpec.vars false W args.toList ds gs before) (hsz : (DataW.weightsEach Tryd.prog (Tryd.f10.params.toList ++ Rows.wireHearsSpec.plain.varTypes Tryd.prog) (ds ++ gs)).all (· ≤ reachBytes) = true) (hT : Tabs W) :
    Calls Tryd.prog 10 args W fun e W' => ∃ v, e = .returned v ∧ Rows.wireHearsSpec.post enc Tryd.prog Tryd.f10 false true false false W args v W' := by
  have hval : ∀ (j : Nat) t v, Tryd.f10.params[j]? = some t → args[j]? = some v → Value.okWide Tryd.prog W .any base t v := hval0
  have hW' := hW
  obtain ⟨p, q, hA0, hV, rfl, hfz, hnd⟩ := hW
  have hA : DataW.TrodAll enc Tryd.prog W 0 (fun _ => true) true Tryd.f10.params.toList args.toList ds p := hA0
  rw [Tryd.params10] at hA hval
  obtain ⟨rfl, rfl⟩ := trodVars_none hV
  obtain ⟨v0, vs0, d0, ds0, p0, q0, hargs, rfl, rfl, h0, r0⟩ := trodAll_cons hA
  obtain ⟨rfl, rfl, rfl⟩ := trodAll_nil r0
  obtain rfl : args = #[v0] := by cases args; simp_all
  obtain ⟨A0, n0, c0, rfl⟩ := okWide_slice Tryd.underlying47 (hval 0 47 v0 rfl rfl)
  obtain ⟨m, hm0⟩ := h0
  obtain ⟨A, c, bs, hv, hbc, hcm, hs, hl⟩ := sl_bytes Tryd.underlying47 Tryd.underlying5 (by kernel_rfl) hm0
  have hc : bs.length ≤ c ∧ c ≤ 9223372036854775807 := ⟨hbc, hcm⟩
  have hw : ∀ n ∈ d0.weights Tryd.prog 47, n ≤ reachBytes := fun n hn => by simpa using List.all_eq_true.1 hsz n (DataW.weights_mem_each (j := 0) (t := 47) rfl rfl n hn)
  have hm : bs.length ≤ 140737488351232 := by
    rcases hl with h | ⟨el, sp, he, hle⟩
    · omega
    · dsimp only at he
      have h1 := hw ((el.length + sp.length) * 1) (by
        rw [he]
        simp [DataW.weights, Tryd.underlying47, show Tryd.prog.bytesOf 5 = 1 by kernel_rfl])
      unfold reachBytes at h1
      omega
  rw [hv] at hW' ⊢
  refine (walk W A c bs hs hm hc hT).mono fun e W' ⟨he, hg⟩ => ?_
  subst he
  exact ⟨_, rfl, post_law (tb := 4) laidOut (by kernel_rfl) rfl (by kernel_rfl) Tryd.underlying4 rfl hW' hg⟩
theorem lifted (os : Os) (started : os.Started) (H : Type) (enc : TypeId × Value → H) :
    ReturnsInHanded {} Tryd.checked os 10 .any (fun w args => (Rows.wireHearsSpec.pre enc Tryd.prog Tryd.f10 Rows.wireHearsRow.domain false w args ∧ laidMetH Tryd.prog Rows.wireHearsRow.laid w) ∧ sizedMet enc Tryd.prog Tryd.f10 (OpenSpec.ofChange Rows.wireHearsSpec) false w args)
      (Rows.wireHearsSpec.post enc Tryd.prog Tryd.f10 false true false false) := by
  refine returnsInHanded_of_change_and (C := Tryd.checked) (X := fun w _ => laidMetH Tryd.prog Rows.wireHearsRow.laid w) (fun _ _ _ hh h => h.of_heap hh) own started (by kernel_rfl) Tryd.func10
    (ChangeSpec.witness_at (enc := enc) (C := Tryd.checked) (os := os) (X := fun w _ => laidMetH Tryd.prog Rows.wireHearsRow.laid w) false (laidWorld os) #[.slice none 0 0] 8 rfl (by kernel_rfl) (by kernel_rfl) (by kernel_rfl) (by kernel_rfl) (by kernel_rfl) (laid_met os _)) ?_
  intro W base args ds gs before hval hW _ hsz hL _
  exact contract H enc W base args ds gs before hval hW hsz (tabs_of hL)
theorem said : Rows.WireHearsSaid :=
  OpenClaim.holds_of_wide 10 Tryd.f10 rfl rfl rfl rfl rfl rfl rfl ⟨rfl, rfl, rfl, rfl, rfl⟩ rfl rfl rfl rfl rfl (by kernel_rfl) Tryd.func10 (by kernel_rfl)
    (of_decide_eq_true (by kernel_rfl)) (by unfold Func.isWrapper; first | (rw [if_pos (by decide +kernel)]; kernel_rfl) | (rw [if_neg (by decide +kernel)]; exact ⟨rfl, rfl⟩))
    (fun os started H enc _ => lifted os started H enc)
theorem plain (f : FuncId) (fn : Func) (hf : Tryd.pinned.checked.prog.funcNamed "wherry/wherrylaw.WireHears" = some f) (hfn : Tryd.pinned.checked.prog.funcs[f]? = some fn) :
    false = Tryd.pinned.checked.prog.looks [] ∧ ∀ (j : Nat) t, fn.params[j]? = some t → Tryd.pinned.checked.prog.wantsStandIn t = false := by
  obtain rfl : f = 10 := Option.some.inj ((show Tryd.prog.funcNamed "wherry/wherrylaw.WireHears" = some 10 by kernel_rfl).symm.trans hf) |>.symm
  obtain rfl : fn = Tryd.f10 := (Option.some.inj (Tryd.func10.symm.trans hfn)).symm
  refine ⟨by kernel_rfl, fun j t ht => ?_⟩
  have hall : (Tryd.f10.params.toList.all fun u => !Tryd.prog.wantsStandIn u) = true := by kernel_rfl
  have hm : t ∈ Tryd.f10.params.toList := by simpa using Array.mem_of_getElem? ht
  exact (show Tryd.prog.wantsStandIn t = false by simpa using List.all_eq_true.1 hall t hm)
theorem card : Rows.WireHearsCardSaid :=
  Claim7.holds_tied_plain_at .later [] _ _ _ _ said (fun _ h => by cases h) (by kernel_rfl) (fun _ h => by cases h) wireHears_row_tie rfl ⟨rfl, rfl⟩ (by kernel_rfl) rfl plain (by kernel_rfl)
end wireHears
end Go.Proofs.YtieofljkgmkaiaaDoor
