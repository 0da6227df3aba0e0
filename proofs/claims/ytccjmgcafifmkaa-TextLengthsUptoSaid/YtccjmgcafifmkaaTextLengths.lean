/-
  wherrylaw.TextLengths returns true for every operation, where what it reads is of bulk at most 1048576.
-/
import Derived.Test.YtccjmgcafifmkaaRows
import Derived.Test.YtccjmgcafifmkaaOpen
import Derived.Test.YtccjmgcafifmkaaLens
namespace Go.Proofs.Ytccjmgcafifmkaa.textLengths
open Go.ChangeShapes Go.WideShapes Go.ChangeAt Go.RowKit
set_option maxRecDepth 100000
theorem walk (w : World) (A : Option Addr) (c : Nat) (ps : List PartD) (hs : OpIn (· < w.heap.size) w A ps) (hm : ps.length ≤ 1048576) (ht : ∀ p ∈ ps, p.Fit) :
    Calls Try.prog 6 #[.slice A ps.length c] w fun e w' => e = .returned (.bool true) ∧ Below w.heap.size w w' := by
  have HT := Lib.hid (fun p hp => (ht p hp).text)
  clear ht
  go_enter Try.func6, Try.ntmps6
  go_wp2_with fail
  refine (Lengths_c _ A c ps hs hm HT.out).mono ?_
  rintro e w1 ⟨rfl, hb1⟩
  obtain ⟨⟨d1, os1⟩, rfl⟩ := beyond_of hb1
  go_wp2_with fail
  refine (LengthsOf_c _ A c ps (Sl.later hs (by repeat (first | exact Below.refl _ _ | apply bGrow | apply bAlloc | apply Below.drew | apply bDrewN | apply bIter))) hm HT.out).mono ?_
  rintro e w2 ⟨rfl, hb2⟩
  obtain ⟨⟨d2, os2⟩, rfl⟩ := beyond_of hb2
  go_wp2
  go_ret
  exact ⟨by simp, (by repeat (first | exact Below.refl _ _ | apply bGrow | apply bAlloc | apply Below.drew | apply bDrewN | apply bIter))⟩

theorem lifted (os : Os) (started : os.Started) (H : Type) (enc : TypeId × Value → H) (F : Stop.Interp) :
    ReturnsInHanded {} Try.checked os 6 .any ((Rows.OpenSpec.upto Rows.textLengthsSpec).pre6 enc Try.prog Try.f6 Rows.textLengthsUptoRow.domain false) (((Rows.OpenSpec.upto Rows.textLengthsSpec).at F).post enc Try.prog Try.f6 false true false false) := by
  refine returnsInHanded_of_cond (C := Try.checked) (s := Rows.OpenSpec.upto Rows.textLengthsSpec) (k := Rows.uptoSmall) rfl own started (by kernel_rfl) Try.func6
    (OpenSpec.witness (enc := enc) (C := Try.checked) (s := Rows.OpenSpec.upto Rows.textLengthsSpec) (k := Rows.uptoSmall) rfl false ⟨#[], #[.slice none 0 0], []⟩ 8 (by kernel_rfl) (by kernel_rfl) (by kernel_rfl)
      (x := ([.nil], [], [])) (by kernel_rfl) rfl (by kernel_rfl)) ?_
  intro W base args ds gs before hval0 hW _ hk _
  have hval : ∀ (j : Nat) t v, Try.f6.params[j]? = some t → args[j]? = some v → Value.okWide Try.prog W .any base t v := hval0
  have hW' := hW
  obtain ⟨p, q, hA0, hV, rfl, hfz, hnd⟩ := hW
  have hA : DataW.TrodAll enc Try.prog W 0 (fun _ => true) true Try.f6.params.toList args.toList ds p := hA0
  rw [Try.params6] at hA hval
  obtain ⟨v0, vs0, d0, ds0, p0, q0, hargs, rfl, rfl, h0, r0⟩ := trodAll_cons hA
  obtain ⟨rfl, rfl, rfl⟩ := trodAll_nil r0
  obtain rfl : args = #[v0] := by cases args; simp_all
  obtain ⟨rfl, rfl⟩ := trodVars_none hV
  have hbulk := bulk_small hk
  have hb0 := bulk_mem (show d0 ∈ [d0] ++ [] by simp)
  obtain ⟨A, n, c, rfl⟩ := okWide_slice Try.underlying37 (hval 0 37 v0 rfl rfl)
  obtain ⟨m, hm⟩ := h0
  obtain ⟨A', c', ps, hv, _, _, hs, hl, ht⟩ := open_op Try.underlying37 hm (Nat.le_trans hb0 hbulk)
  rw [hv] at hW' ⊢
  refine (walk W A' c' ps hs (Nat.le_trans hl (Nat.le_trans hb0 hbulk)) ht).mono fun e W' ⟨he, hg⟩ => ?_
  subst he
  exact ⟨_, rfl, post_law (tb := 4) laidOut (by kernel_rfl) rfl (by kernel_rfl) Try.underlying4 rfl hW' hg⟩

theorem proved : Rows.TextLengthsUptoSaid :=
  OpenClaim.holds_of_cond 6 Try.f6 rfl rfl rfl rfl rfl rfl rfl ⟨rfl, rfl, rfl, rfl, rfl⟩ rfl rfl rfl rfl rfl (by kernel_rfl) Try.func6 (by kernel_rfl)
    (of_decide_eq_true (by kernel_rfl)) (by unfold Func.isWrapper; first | (rw [if_pos (by decide +kernel)]; kernel_rfl) | (rw [if_neg (by decide +kernel)]; exact ⟨rfl, rfl⟩))
    (fun os started H enc _ F => lifted os started H enc F)
end Go.Proofs.Ytccjmgcafifmkaa.textLengths
