/-
  wherrylaw.TapeCrashes returns true for every tape and every int (no condition).
-/
import Derived.Test.YtccjmgcafifmkaaRows
import Derived.Test.YtccjmgcafifmkaaFrame
import Derived.Test.YtccjmgcafifmkaaTapeC
import Derived.Test.YtccjmgcafifmkaaTapeOpen
namespace Go.Proofs.Ytccjmgcafifmkaa.tapeCrashes
open Go.ChangeShapes Go.WideShapes Go.ChangeAt Go.RowKit Go.Joins
set_option maxRecDepth 100000
theorem same3 {W : World} {A2 A3 : Option Addr} {c2 c3 : Nat} {bs : List UInt8} {sy : Int} (h2 : Sl (· < W.heap.size) W 1 A2 bs.length (bs.map byteV)) (h3 : Sl (· < W.heap.size) W 1 A3 bs.length (bs.map byteV)) :
    Calls Try.prog 19 #[tapeV A2 bs.length c2 sy, tapeV A3 bs.length c3 sy] W fun e w' => e = .returned (.bool true) ∧ Below W.heap.size W w' := sameTape_c W A2 A3 c2 c3 bs sy h2 h3
set_option maxHeartbeats 400000 in
/-- The law, where both calls answer these bytes and this error. -/
theorem walk_of (w : World) (A : Option Addr) (c : Nat) (bs : List UInt8) (sy keep : Int) (hs : Sl (· < w.heap.size) w 1 A bs.length (bs.map byteV)) (hm : bs.length ≤ 140737488351232) (rs : List UInt8) (rsy er : Int)
    (hC : Hid (∀ (W : World) (A1 : Option Addr) (c1 : Nat), Sl (· < W.heap.size) W 1 A1 bs.length (bs.map byteV) → bs.length ≤ c1 ∧ c1 ≤ 9223372036854775807 → Calls Try.prog 20 #[tapeV A1 bs.length c1 sy, .int .i64 keep] W (RetTapeR W rs rsy er)))
    (hR : Hid (∀ (W : World), Sl (· < W.heap.size) W 1 A bs.length (bs.map byteV) → Calls Try.prog 21 #[tapeV A bs.length c sy, .int .i64 keep] W (RetTapeR W rs rsy er))) :
    Calls Try.prog 8 #[tapeV A bs.length c sy, .int .i64 keep] w fun e w' => e = .returned (.bool true) ∧ Below w.heap.size w w' := by
  go_enter Try.func8, Try.ntmps8
  go_wp2_with fail
  refine (tapes_c _ A c bs sy (hs.later (by repeat (first | exact Below.refl _ _ | apply bGrow | apply bAlloc | apply Below.drew | apply bDrewN | apply bIter))) hm).mono ?_
  rintro e w1 ⟨A1, c1, rfl, hown1, hb1⟩
  have hs1 := own_sl hown1
  have hcap := own_cap hown1
  obtain ⟨⟨d1, os1⟩, rfl⟩ := beyond_of hb1
  go_wp2_with fail
  refine (hC.out _ A1 c1 (hs1.later (by repeat (first | exact Below.refl _ _ | apply bGrow | apply bAlloc | apply Below.drew | apply bDrewN | apply bIter))) hcap).mono ?_
  rintro e w2 ⟨A2, c2, rfl, hs2, hb2⟩
  obtain ⟨⟨d2, os2⟩, rfl⟩ := beyond_of hb2
  go_wp2_with fail
  refine (hR.out _ (hs.later (by repeat (first | exact Below.refl _ _ | apply bGrow | apply bAlloc | apply Below.drew | apply bDrewN | apply bIter)))).mono ?_
  rintro e w3 ⟨A3, c3, rfl, hs3, hb3⟩
  obtain ⟨⟨d3, os3⟩, rfl⟩ := beyond_of hb3
  go_wp2_with fail
  refine (same3 (hs2.later (by repeat (first | exact Below.refl _ _ | apply bGrow | apply bAlloc | apply Below.drew | apply bDrewN | apply bIter))) (hs3.later (by repeat (first | exact Below.refl _ _ | apply bGrow | apply bAlloc | apply Below.drew | apply bDrewN | apply bIter)))).mono ?_
  rintro e w4 ⟨rfl, hb4⟩
  obtain ⟨⟨d4, os4⟩, rfl⟩ := beyond_of hb4
  go_wp2_with fail
  refine (same3 (hs1.later (by repeat (first | exact Below.refl _ _ | apply bGrow | apply bAlloc | apply Below.drew | apply bDrewN | apply bIter))) (hs.later (by repeat (first | exact Below.refl _ _ | apply bGrow | apply bAlloc | apply Below.drew | apply bDrewN | apply bIter)))).mono ?_
  rintro e w5 ⟨rfl, hb5⟩
  obtain ⟨⟨d5, os5⟩, rfl⟩ := beyond_of hb5
  go_wp2
  go_ret
  exact ⟨by simp, (by repeat (first | exact Below.refl _ _ | apply bGrow | apply bAlloc | apply Below.drew | apply bDrewN | apply bIter))⟩
theorem walk (w : World) (A : Option Addr) (c : Nat) (bs : List UInt8) (sy keep : Int) (hs : Sl (· < w.heap.size) w 1 A bs.length (bs.map byteV)) (hm : bs.length ≤ 140737488351232) (hc1 : bs.length ≤ c) (hk : keep ≤ 9223372036854775807) :
    Calls Try.prog 8 #[tapeV A bs.length c sy, .int .i64 keep] w fun e w' => e = .returned (.bool true) ∧ Below w.heap.size w w' := by
  by_cases h : tapeOk bs sy
  · by_cases hn : keep < 0
    · exact walk_of w A c bs sy keep hs hm [] 0 2 (fun W A1 c1 h1 _ => Crash_neg W A1 c1 bs sy keep h1 h hn) (fun W _ => TapeCrashed_neg W A c bs sy keep h hn)
    · obtain ⟨k, rfl⟩ := Int.eq_ofNat_of_zero_le (show 0 ≤ keep by omega)
      obtain ⟨s, rfl⟩ := Int.eq_ofNat_of_zero_le h.1
      exact walk_of w A c bs s k hs hm _ _ _ (fun W A1 c1 h1 _ => Crash_ok W A1 c1 bs s k h1 h (by omega)) (fun W h1 => TapeCrashed_ok W A c bs s k h1 hc1 h (by omega))
  · exact walk_of w A c bs sy keep hs hm [] 0 9 (fun W A1 c1 _ _ => Crash_state W A1 c1 bs sy keep h hm) (fun W _ => TapeCrashed_state W A c bs sy keep h)

theorem lifted (os : Os) (started : os.Started) (H : Type) (enc : TypeId × Value → H) :
    ReturnsInHanded {} Try.checked os 8 .any (Rows.tapeCrashesSpec.pre6 enc Try.prog Try.f8 Rows.tapeCrashesRow.domain false) (Rows.tapeCrashesSpec.post enc Try.prog Try.f8 false true false false) := by
  refine returnsInHanded_of_change_sized (C := Try.checked) own started (by kernel_rfl) Try.func8
    (ChangeSpec.witness6 (enc := enc) (C := Try.checked) false ⟨#[], #[.agg #[.slice none 0 0, .int .i64 0], .int .i64 0], []⟩ 8 (by kernel_rfl) (by kernel_rfl) (by kernel_rfl) (by kernel_rfl)) ?_
  intro W base args ds gs before hval0 hW hcnd hsz _
  have hval : ∀ (j : Nat) t v, Try.f8.params[j]? = some t → args[j]? = some v → Value.okWide Try.prog W .any base t v := hval0
  have hW' := hW
  obtain ⟨p, q, hA0, hV, rfl, hfz, hnd⟩ := hW
  have hA : DataW.TrodAll enc Try.prog W 0 (fun _ => true) true Try.f8.params.toList args.toList ds p := hA0
  rw [Try.params8] at hA hval
  obtain ⟨v0, vs0, d0, ds0, p0, q0, hargs, rfl, rfl, h0, r0⟩ := trodAll_cons hA
  obtain ⟨v1, vs1, d1, ds1, p1, q1, rfl, rfl, rfl, h1, r1⟩ := trodAll_cons r0
  obtain ⟨rfl, rfl, rfl⟩ := trodAll_nil r1
  obtain rfl : args = #[v0, v1] := by cases args; simp_all
  obtain ⟨rfl, rfl⟩ := trodVars_none hV
  obtain ⟨A, c, bs, sy, rfl, hs, hm, hc1, _⟩ := open_tape (hval 0 43 v0 rfl rfl) h0 (fun n hn => by simpa using List.all_eq_true.1 hsz n (DataW.weights_mem_each (j := 0) (t := 43) rfl rfl n hn))
  obtain ⟨k, rfl, rfl, rfl, wk⟩ := open_int Try.underlying3 (hval 1 3 v1 rfl rfl) h1
  have hk : k ≤ 9223372036854775807 := by
    have : -9223372036854775808 ≤ k ∧ k ≤ 9223372036854775807 := by simpa [Lit.wf, IntKind.min, IntKind.max, IntKind.signed, IntKind.bits] using wk
    exact this.2
  refine (walk W A c bs sy k hs hm hc1 hk).mono fun e W' ⟨he, hg⟩ => ?_
  subst he
  exact ⟨_, rfl, post_law (tb := 4) laidOut (by kernel_rfl) rfl (by kernel_rfl) Try.underlying4 rfl hW' hg⟩

theorem proved : Rows.TapeCrashesSaid :=
  OpenClaim.holds_of_wide 8 Try.f8 rfl rfl rfl rfl rfl rfl rfl ⟨rfl, rfl, rfl, rfl, rfl⟩ rfl rfl rfl rfl rfl (by kernel_rfl) Try.func8 (by kernel_rfl)
    (of_decide_eq_true (by kernel_rfl)) (by unfold Func.isWrapper; first | (rw [if_pos (by decide +kernel)]; kernel_rfl) | (rw [if_neg (by decide +kernel)]; exact ⟨rfl, rfl⟩))
    (fun os started H enc _ => lifted os started H enc)
end Go.Proofs.Ytccjmgcafifmkaa.tapeCrashes
