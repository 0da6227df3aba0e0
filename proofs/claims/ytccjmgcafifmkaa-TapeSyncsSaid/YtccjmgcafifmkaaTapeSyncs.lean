/-
  wherrylaw.TapeSyncs returns true for every tape (no condition).
-/
import Derived.Test.YtccjmgcafifmkaaRows
import Derived.Test.YtccjmgcafifmkaaFrame
import Derived.Test.YtccjmgcafifmkaaTapeC
import Derived.Test.YtccjmgcafifmkaaTapeOpen
namespace Go.Proofs.Ytccjmgcafifmkaa.tapeSyncs
open Go.ChangeShapes Go.WideShapes Go.ChangeAt Go.RowKit Go.Joins
set_option maxRecDepth 100000
theorem walk (w : World) (A : Option Addr) (c : Nat) (bs : List UInt8) (sy : Int) (hs : Sl (· < w.heap.size) w 1 A bs.length (bs.map byteV)) (hm : bs.length ≤ 140737488351232) :
    Calls Try.prog 7 #[tapeV A bs.length c sy] w fun e w' => e = .returned (.bool true) ∧ Below w.heap.size w w' := by
  by_cases h : tapeOk bs sy
  · go_enter Try.func7, Try.ntmps7
    go_wp2_with fail
    refine (tapes_c _ A c bs sy (hs.later (by repeat (first | exact Below.refl _ _ | apply bGrow | apply bAlloc | apply Below.drew | apply bDrewN | apply bIter))) hm).mono ?_
    rintro e w1 ⟨A1, c1, rfl, hown1, hb1⟩
    have hs1 := own_sl hown1
    obtain ⟨⟨d1, os1⟩, rfl⟩ := beyond_of hb1
    go_wp2_with fail
    refine (Sync_ok _ A1 c1 bs sy hs1 h).mono ?_
    rintro e w2 ⟨A2, c2, rfl, hown2, hb2⟩
    obtain ⟨⟨d2, os2⟩, rfl⟩ := beyond_of hb2
    go_wp2_with fail
    refine (TapeSynced_ok _ A c bs sy (hs.later (by repeat (first | exact Below.refl _ _ | apply bGrow | apply bAlloc | apply Below.drew | apply bDrewN | apply bIter))) h).mono ?_
    rintro e w3 ⟨A3, c3, rfl, hown3, hb3⟩
    have hs2 := (own_sl hown2).later (bThen (bAlloc (Below.refl _ _) _) hb3)
    have hs3 := own_sl hown3
    obtain ⟨⟨d3, os3⟩, rfl⟩ := beyond_of hb3
    go_wp2_with fail
    refine (sameTape_c _ A2 A3 c2 c3 bs _ (hs2.later (by repeat (first | exact Below.refl _ _ | apply bGrow | apply bAlloc | apply Below.drew | apply bDrewN | apply bIter))) (hs3.later (by repeat (first | exact Below.refl _ _ | apply bGrow | apply bAlloc | apply Below.drew | apply bDrewN | apply bIter)))).mono ?_
    rintro e w4 ⟨rfl, hb4⟩
    obtain ⟨⟨d4, os4⟩, rfl⟩ := beyond_of hb4
    go_wp2
    go_ret
    exact ⟨by simp, (by repeat (first | exact Below.refl _ _ | apply bGrow | apply bAlloc | apply Below.drew | apply bDrewN | apply bIter))⟩
  · go_enter Try.func7, Try.ntmps7
    go_wp2_with fail
    refine (tapes_c _ A c bs sy (hs.later (by repeat (first | exact Below.refl _ _ | apply bGrow | apply bAlloc | apply Below.drew | apply bDrewN | apply bIter))) hm).mono ?_
    rintro e w1 ⟨A1, c1, rfl, hown1, hb1⟩
    have hs1 := own_sl hown1
    obtain ⟨⟨d1, os1⟩, rfl⟩ := beyond_of hb1
    go_wp2_with fail
    refine (Sync_no _ A1 c1 bs sy h hm).mono ?_
    rintro e w2 ⟨A2, c2, rfl, hown2, hb2⟩
    obtain ⟨⟨d2, os2⟩, rfl⟩ := beyond_of hb2
    go_wp2_with fail
    refine (TapeSynced_no _ A c bs sy h).mono ?_
    rintro e w3 ⟨A3, c3, rfl, hown3, hb3⟩
    have hs2 := (own_sl hown2).later (bThen (bAlloc (Below.refl _ _) _) hb3)
    have hs3 := own_sl hown3
    obtain ⟨⟨d3, os3⟩, rfl⟩ := beyond_of hb3
    go_wp2_with fail
    refine (sameTape_c _ A2 A3 c2 c3 [] _ (hs2.later (by repeat (first | exact Below.refl _ _ | apply bGrow | apply bAlloc | apply Below.drew | apply bDrewN | apply bIter))) (hs3.later (by repeat (first | exact Below.refl _ _ | apply bGrow | apply bAlloc | apply Below.drew | apply bDrewN | apply bIter)))).mono ?_
    rintro e w4 ⟨rfl, hb4⟩
    obtain ⟨⟨d4, os4⟩, rfl⟩ := beyond_of hb4
    go_wp2
    go_ret
    exact ⟨by simp, (by repeat (first | exact Below.refl _ _ | apply bGrow | apply bAlloc | apply Below.drew | apply bDrewN | apply bIter))⟩

theorem lifted (os : Os) (started : os.Started) (H : Type) (enc : TypeId × Value → H) :
    ReturnsInHanded {} Try.checked os 7 .any (Rows.tapeSyncsSpec.pre6 enc Try.prog Try.f7 Rows.tapeSyncsRow.domain false) (Rows.tapeSyncsSpec.post enc Try.prog Try.f7 false true false false) := by
  refine returnsInHanded_of_change_sized (C := Try.checked) own started (by kernel_rfl) Try.func7
    (ChangeSpec.witness6 (enc := enc) (C := Try.checked) false ⟨#[], #[.agg #[.slice none 0 0, .int .i64 0]], []⟩ 8 (by kernel_rfl) (by kernel_rfl) (by kernel_rfl) (by kernel_rfl)) ?_
  intro W base args ds gs before hval0 hW hcnd hsz _
  have hval : ∀ (j : Nat) t v, Try.f7.params[j]? = some t → args[j]? = some v → Value.okWide Try.prog W .any base t v := hval0
  have hW' := hW
  obtain ⟨p, q, hA0, hV, rfl, hfz, hnd⟩ := hW
  have hA : DataW.TrodAll enc Try.prog W 0 (fun _ => true) true Try.f7.params.toList args.toList ds p := hA0
  rw [Try.params7] at hA hval
  obtain ⟨v0, vs0, d0, ds0, p0, q0, hargs, rfl, rfl, h0, r0⟩ := trodAll_cons hA
  obtain ⟨rfl, rfl, rfl⟩ := trodAll_nil r0
  obtain rfl : args = #[v0] := by cases args; simp_all
  obtain ⟨rfl, rfl⟩ := trodVars_none hV
  obtain ⟨A, c, bs, sy, rfl, hs, hm, _⟩ := open_tape (hval 0 43 v0 rfl rfl) h0 (fun n hn => by simpa using List.all_eq_true.1 hsz n (DataW.weights_mem_each (j := 0) (t := 43) rfl rfl n hn))
  refine (walk W A c bs sy hs hm).mono fun e W' ⟨he, hg⟩ => ?_
  subst he
  exact ⟨_, rfl, post_law (tb := 4) laidOut (by kernel_rfl) rfl (by kernel_rfl) Try.underlying4 rfl hW' hg⟩

theorem proved : Rows.TapeSyncsSaid :=
  OpenClaim.holds_of_wide 7 Try.f7 rfl rfl rfl rfl rfl rfl rfl ⟨rfl, rfl, rfl, rfl, rfl⟩ rfl rfl rfl rfl rfl (by kernel_rfl) Try.func7 (by kernel_rfl)
    (of_decide_eq_true (by kernel_rfl)) (by unfold Func.isWrapper; first | (rw [if_pos (by decide +kernel)]; kernel_rfl) | (rw [if_neg (by decide +kernel)]; exact ⟨rfl, rfl⟩))
    (fun os started H enc _ => lifted os started H enc)
end Go.Proofs.Ytccjmgcafifmkaa.tapeSyncs
