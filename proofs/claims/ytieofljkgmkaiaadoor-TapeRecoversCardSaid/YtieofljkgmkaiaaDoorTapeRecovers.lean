/-
  wherrylaw.TapeRecovers returns true for every tape, where unicode/utf8's two tables are as their text lays them.
-/
import Derived.Test.YtieofljkgmkaiaaDoorRows
import Derived.Test.YtieofljkgmkaiaaDoorDoor
import Derived.Test.YtieofljkgmkaiaaDoorTapeOpen
import Derived.Test.YtieofljkgmkaiaaDoorRecovered
import Derived.JoinedOf
import Derived.Handed
namespace Go.Proofs.YtieofljkgmkaiaaDoor
open Go.ChangeShapes Go.WideShapes Go.ChangeAt Go.RowKit Go.Joins Go.Deep
set_option maxRecDepth 100000
namespace tapeRecovers
theorem same3 {W : World} {A2 A3 : Option Addr} {c2 c3 : Nat} {bs : List UInt8} {sy : Int} (h2 : Sl (· < W.heap.size) W 1 A2 bs.length (bs.map byteV)) (h3 : Sl (· < W.heap.size) W 1 A3 bs.length (bs.map byteV)) :
    Calls Tryd.prog 32 #[tapeV A2 bs.length c2 sy, tapeV A3 bs.length c3 sy] W fun e w' => e = .returned (.bool true) ∧ Below W.heap.size W w' := sameTape_c W A2 A3 c2 c3 bs sy h2 h3
set_option maxHeartbeats 1000000 in
/-- The law, where both calls answer these records, bytes and this error. -/
theorem walk_of (w : World) (A : Option Addr) (c : Nat) (bs : List UInt8) (sy : Int) (hs : Sl (· < w.heap.size) w 1 A bs.length (bs.map byteV)) (hm : bs.length ≤ 140737488351232) (HT : Hid (Tabs w)) (R : List (Int × List PartD)) (rs : List UInt8) (rsy er : Int)
    (HR : Hid (R.length ≤ 8388608 ∧ ∀ r ∈ R, r.2.length ≤ 1048576))
    (hC : Hid (∀ (W : World) (A1 : Option Addr) (c1 : Nat), Tabs W → Sl (· < W.heap.size) W 1 A1 bs.length (bs.map byteV) → Calls Tryd.prog 29 #[tapeV A1 bs.length c1 sy] W (RetRecs W R rs rsy er)))
    (hR : Hid (∀ (W : World), Tabs W → Sl (· < W.heap.size) W 1 A bs.length (bs.map byteV) → Calls Tryd.prog 30 #[tapeV A bs.length c sy] W (RetRecs W R rs rsy er))) :
    Calls Tryd.prog 7 #[tapeV A bs.length c sy] w fun e w' => e = .returned (.bool true) ∧ Below w.heap.size w w' := by
  go_enter Tryd.func7, Tryd.ntmps7
  go_wp2_with fail
  refine (tapes_c _ A c bs sy (hs.later (by repeat (first | exact Below.refl _ _ | apply bGrow | apply bAlloc | apply Below.drew | apply bDrewN | apply bIter))) hm).mono ?_
  rintro e w1 ⟨A1, c1, rfl, hown1, hb1⟩
  have hs1 := own_sl hown1
  obtain ⟨⟨d1, os1⟩, rfl⟩ := beyond_of hb1
  go_wp2_with fail
  refine (hC.out _ A1 c1 (HT.out.later (by repeat (first | exact Below.refl _ _ | apply bGrow | apply bAlloc | apply Below.drew | apply bDrewN | apply bIter))) (hs1.later (by repeat (first | exact Below.refl _ _ | apply bGrow | apply bAlloc | apply Below.drew | apply bDrewN | apply bIter)))).mono ?_
  rintro e w2 ⟨A2, c2, L2, B2, d2', rfl, hk2, hr2, hs2, hb2⟩
  have hl2 : L2.length = R.length := by rw [← hk2, List.length_map]
  rw [hl2]
  obtain ⟨⟨d2, os2⟩, rfl⟩ := beyond_of hb2
  go_wp2_with fail
  refine (hR.out _ (HT.out.later (by repeat (first | exact Below.refl _ _ | apply bGrow | apply bAlloc | apply Below.drew | apply bDrewN | apply bIter))) (hs.later (by repeat (first | exact Below.refl _ _ | apply bGrow | apply bAlloc | apply Below.drew | apply bDrewN | apply bIter)))).mono ?_
  rintro e w3 ⟨A3, c3, L3, B3, d3', rfl, hk3, hr3, hs3, hb3⟩
  have hl3 : L3.length = R.length := by rw [← hk3, List.length_map]
  rw [hl3]
  have HK := Lib.hid (show L3.map RecV.key = L2.map RecV.key from hk3.trans hk2.symm)
  have HL := Lib.hid (show ∀ r ∈ L2, r.o.ps.length ≤ 1048576 from fun r hr => HR.out.2 (r.ep, r.o.ps) (by rw [← hk2]; exact List.mem_map.2 ⟨r, hr, rfl⟩))
  have HN := Lib.hid hl2
  clear hk2 hk3 hl2 hl3
  obtain ⟨⟨d3, os3⟩, rfl⟩ := beyond_of hb3
  go_wp2_with fail
  refine (sameRecords_c _ A2 A3 c2 c3 _ L2 L3 (hr2.later (by repeat (first | exact Below.refl _ _ | apply bGrow | apply bAlloc | apply Below.drew | apply bDrewN | apply bIter))) (hr3.later (by repeat (first | exact Below.refl _ _ | apply bGrow | apply bAlloc | apply Below.drew | apply bDrewN | apply bIter))) HK.out HN.out HR.out.1 HL.out).mono ?_
  rintro e w4 ⟨rfl, hb4⟩
  obtain ⟨⟨d4, os4⟩, rfl⟩ := beyond_of hb4
  go_wp2_with fail
  refine (same3 (hs2.later (by repeat (first | exact Below.refl _ _ | apply bGrow | apply bAlloc | apply Below.drew | apply bDrewN | apply bIter))) (hs3.later (by repeat (first | exact Below.refl _ _ | apply bGrow | apply bAlloc | apply Below.drew | apply bDrewN | apply bIter)))).mono ?_
  rintro e w5 ⟨rfl, hb5⟩
  obtain ⟨⟨d5, os5⟩, rfl⟩ := beyond_of hb5
  go_wp2_with fail
  refine (same3 (hs1.later (by repeat (first | exact Below.refl _ _ | apply bGrow | apply bAlloc | apply Below.drew | apply bDrewN | apply bIter))) (hs.later (by repeat (first | exact Below.refl _ _ | apply bGrow | apply bAlloc | apply Below.drew | apply bDrewN | apply bIter)))).mono ?_
  rintro e w6 ⟨rfl, hb6⟩
  obtain ⟨⟨d6, os6⟩, rfl⟩ := beyond_of hb6
  go_wp2
  go_ret
  exact ⟨by simp, (by repeat (first | exact Below.refl _ _ | apply bGrow | apply bAlloc | apply Below.drew | apply bDrewN | apply bIter))⟩
theorem walk (w : World) (A : Option Addr) (c : Nat) (bs : List UInt8) (sy : Int) (hs : Sl (· < w.heap.size) w 1 A bs.length (bs.map byteV)) (hm : bs.length ≤ 140737488351232) (hc : bs.length ≤ c ∧ c ≤ 9223372036854775807) (hT : Tabs w) :
    Calls Tryd.prog 7 #[tapeV A bs.length c sy] w fun e w' => e = .returned (.bool true) ∧ Below w.heap.size w w' := by
  by_cases h : tapeOk bs sy
  · have hl := h.2.2
    obtain ⟨q1, q2, q3⟩ := recScan_len bs.length bs (Nat.le_refl _)
    exact walk_of w A c bs sy hs hm hT _ _ _ 0 ⟨by omega, q3⟩ (fun W A1 c1 hT hs => Recover_ok W A1 c1 bs sy hs h hT) (fun W hT hs => Recovered_ok W A c bs sy hs hc h hT)
  · exact walk_of w A c bs sy hs hm hT [] [] 0 9 ⟨by simp, by simp⟩ (fun W A1 c1 _ _ => Recover_state W A1 c1 bs sy h hm) (fun W _ _ => Recovered_state W A c bs sy h)
theorem contract (H : Type) (enc : TypeId × Value → H) (W : World) (base : Nat) (args : Array Value) (ds gs : List (DataW H)) (before : List MemPlace)
    (hval0 : ∀ (j : Nat) t v, Tryd.f7.params[j]? = some t → args[j]? = some v → Value.okWide Tryd.prog W .any base t v)
    (hW : DataW.Whole enc Tryd.prog Tryd.f7.params.toList Rows.tapeRecoversSpec.vars false W args.toList ds gs before) (hsz : (DataW.weightsEach Tryd.prog (Tryd.f7.params.toList ++ Rows.tapeRecoversSpec.plain.varTypes Tryd.prog) (ds ++ gs)).all (· ≤ reachBytes) = true) (hT : Tabs W) :
    Calls Tryd.prog 7 args W fun e W' => ∃ v, e = .returned v ∧ Rows.tapeRecoversSpec.post enc Tryd.prog Tryd.f7 false true false false W args v W' := by
  have hval : ∀ (j : Nat) t v, Tryd.f7.params[j]? = some t → args[j]? = some v → Value.okWide Tryd.prog W .any base t v := hval0
  have hW' := hW
  obtain ⟨p, q, hA0, hV, rfl, hfz, hnd⟩ := hW
  have hA : DataW.TrodAll enc Tryd.prog W 0 (fun _ => true) true Tryd.f7.params.toList args.toList ds p := hA0
  rw [Tryd.params7] at hA hval
  obtain ⟨rfl, rfl⟩ := trodVars_none hV
  obtain ⟨v0, vs0, d0, ds0, p0, q0, hargs, rfl, rfl, h0, r0⟩ := trodAll_cons hA
  obtain ⟨rfl, rfl, rfl⟩ := trodAll_nil r0
  obtain rfl : args = #[v0] := by cases args; simp_all
  have hw : ∀ n ∈ d0.weights Tryd.prog 49, n ≤ reachBytes := fun n hn => by simpa using List.all_eq_true.1 hsz n (DataW.weights_mem_each (j := 0) (t := 49) rfl rfl n hn)
  obtain ⟨A, c, bs, sy, hv, hs, hm, h1, h2, _, _⟩ := open_tape (hval 0 49 v0 rfl rfl) h0 hw
  have hc : bs.length ≤ c ∧ c ≤ 9223372036854775807 := ⟨h1, h2⟩
  rw [hv] at hW' ⊢
  refine (walk W A c bs sy hs hm hc hT).mono fun e W' ⟨he, hg⟩ => ?_
  subst he
  exact ⟨_, rfl, post_law (tb := 4) laidOut (by kernel_rfl) rfl (by kernel_rfl) Tryd.underlying4 rfl hW' hg⟩
theorem lifted (os : Os) (started : os.Started) (H : Type) (enc : TypeId × Value → H) :
    ReturnsInHanded {} Tryd.checked os 7 .any (fun w args => (Rows.tapeRecoversSpec.pre enc Tryd.prog Tryd.f7 Rows.tapeRecoversRow.domain false w args ∧ laidMetH Tryd.prog Rows.tapeRecoversRow.laid w) ∧ sizedMet enc Tryd.prog Tryd.f7 (OpenSpec.ofChange Rows.tapeRecoversSpec) false w args)
      (Rows.tapeRecoversSpec.post enc Tryd.prog Tryd.f7 false true false false) := by
  refine returnsInHanded_of_change_and (C := Tryd.checked) (X := fun w _ => laidMetH Tryd.prog Rows.tapeRecoversRow.laid w) (fun _ _ _ hh h => h.of_heap hh) own started (by kernel_rfl) Tryd.func7
    (ChangeSpec.witness_at (enc := enc) (C := Tryd.checked) (os := os) (X := fun w _ => laidMetH Tryd.prog Rows.tapeRecoversRow.laid w) false (laidWorld os) #[.agg #[.slice none 0 0, .int .i64 0]] 8 rfl (by kernel_rfl) (by kernel_rfl) (by kernel_rfl) (by kernel_rfl) (by kernel_rfl) (laid_met os _)) ?_
  intro W base args ds gs before hval hW _ hsz hL _
  exact contract H enc W base args ds gs before hval hW hsz (tabs_of hL)
theorem said : Rows.TapeRecoversSaid :=
  OpenClaim.holds_of_wide 7 Tryd.f7 rfl rfl rfl rfl rfl rfl rfl ⟨rfl, rfl, rfl, rfl, rfl⟩ rfl rfl rfl rfl rfl (by kernel_rfl) Tryd.func7 (by kernel_rfl)
    (of_decide_eq_true (by kernel_rfl)) (by unfold Func.isWrapper; first | (rw [if_pos (by decide +kernel)]; kernel_rfl) | (rw [if_neg (by decide +kernel)]; exact ⟨rfl, rfl⟩))
    (fun os started H enc _ => lifted os started H enc)
theorem plain (f : FuncId) (fn : Func) (hf : Tryd.pinned.checked.prog.funcNamed "wherry/wherrylaw.TapeRecovers" = some f) (hfn : Tryd.pinned.checked.prog.funcs[f]? = some fn) :
    false = Tryd.pinned.checked.prog.looks [] ∧ ∀ (j : Nat) t, fn.params[j]? = some t → Tryd.pinned.checked.prog.wantsStandIn t = false := by
  obtain rfl : f = 7 := Option.some.inj ((show Tryd.prog.funcNamed "wherry/wherrylaw.TapeRecovers" = some 7 by kernel_rfl).symm.trans hf) |>.symm
  obtain rfl : fn = Tryd.f7 := (Option.some.inj (Tryd.func7.symm.trans hfn)).symm
  refine ⟨by kernel_rfl, fun j t ht => ?_⟩
  have hall : (Tryd.f7.params.toList.all fun u => !Tryd.prog.wantsStandIn u) = true := by kernel_rfl
  have hm : t ∈ Tryd.f7.params.toList := by simpa using Array.mem_of_getElem? ht
  exact (show Tryd.prog.wantsStandIn t = false by simpa using List.all_eq_true.1 hall t hm)
theorem card : Rows.TapeRecoversCardSaid :=
  Claim7.holds_tied_plain_at .later [] _ _ _ _ said (fun _ h => by cases h) (by kernel_rfl) (fun _ h => by cases h) tapeRecovers_row_tie rfl ⟨rfl, rfl⟩ (by kernel_rfl) rfl plain (by kernel_rfl)
end tapeRecovers
end Go.Proofs.YtieofljkgmkaiaaDoor
