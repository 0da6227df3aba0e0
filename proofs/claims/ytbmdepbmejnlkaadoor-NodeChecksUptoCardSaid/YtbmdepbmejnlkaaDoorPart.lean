/-
  Contracts of text.part and its reference partFault: both give partFault.
-/
import Derived.Test.YtbmdepbmejnlkaaDoorRows
import Derived.Test.YtbmdepbmejnlkaaDoorOps
import Derived.Test.YtbmdepbmejnlkaaDoorText
import Derived.Test.YtbmdepbmejnlkaaDoorIn
namespace Go.Proofs.YtbmdepbmejnlkaaDoor
open Go.ChangeShapes Go.WideShapes Go.ChangeAt Go.RowKit
set_option maxRecDepth 100000
/-- What a part is refused for. -/
def partFault (p : PartD) : Int :=
  if p.kind = 2 then (if textFault p.text ≠ 0 then textFault p.text else if p.text.toList = [] ∨ p.n ≠ 0 then 4 else 0)
  else if p.kind = 1 ∨ p.kind = 3 then (if p.n < 1 ∨ 4000 < p.n then 2 else if p.text.toList ≠ [] then 4 else 0)
  else 3
abbrev partV (k n : Int) (s : ByteArray) : Value := .agg #[.int .i64 k, .int .i64 n, .string s]
theorem textFault_cases (s : ByteArray) : textFault s = 0 ∨ textFault s = 1 ∨ textFault s = 4 := by
  unfold textFault
  split
  · simp
  · split <;> simp
theorem part_c (k n : Int) (s : ByteArray) (w : World) (hT : Tabs w) (hs : s.size ≤ 1048576) :
    Calls Tryd.prog 73 #[partV k n s] w fun e w' => e = .returned (.int .i64 (partFault ⟨k, n, s⟩)) ∧ Below w.heap.size w w' := by
  by_cases hk2 : k = 2
  · subst hk2
    have hc := CheckText_c s
    have hf := textFault_cases s
    by_cases h0 : textFault s = 0
    · rw [h0] at hc
      have HC := Lib.hid hc
      clear hc hf
      by_cases he : s.toList = []
      · have HF := Lib.hid (show partFault ⟨2, n, s⟩ = 4 by simp [partFault, h0, he])
        clear h0
        go_enter Tryd.func73, Tryd.ntmps73
        go_wp2_with fail
        refine (HC.out _ (hT.later (by repeat (first | exact Below.refl _ _ | apply bGrow | apply bAlloc | apply Below.drew | apply bDrewN | apply bIter))) hs).mono ?_
        rintro e w1 ⟨rfl, hb1⟩
        obtain ⟨⟨d1, os1⟩, rfl⟩ := beyond_of hb1
        go_wp2_with fail
        go_ret
        exact ⟨by rw [HF.out]; rfl, (by repeat (first | exact Below.refl _ _ | apply bGrow | apply bAlloc | apply Below.drew | apply bDrewN | apply bIter))⟩
      have he1 : s.toList.isEmpty = false := by simpa using he
      by_cases hn : n = 0
      · subst hn
        have HF := Lib.hid (show partFault ⟨2, 0, s⟩ = 0 by simp [partFault, h0, he])
        clear h0
        go_enter Tryd.func73, Tryd.ntmps73
        go_wp2_with fail
        refine (HC.out _ (hT.later (by repeat (first | exact Below.refl _ _ | apply bGrow | apply bAlloc | apply Below.drew | apply bDrewN | apply bIter))) hs).mono ?_
        rintro e w1 ⟨rfl, hb1⟩
        obtain ⟨⟨d1, os1⟩, rfl⟩ := beyond_of hb1
        go_wp2_with fail
        go_ret
        exact ⟨by rw [HF.out]; rfl, (by repeat (first | exact Below.refl _ _ | apply bGrow | apply bAlloc | apply Below.drew | apply bDrewN | apply bIter))⟩
      · have HF := Lib.hid (show partFault ⟨2, n, s⟩ = 4 by simp [partFault, h0, hn])
        have hn1 : (n != 0) = true := by simpa using hn
        clear h0
        go_enter Tryd.func73, Tryd.ntmps73
        go_wp2_with fail
        refine (HC.out _ (hT.later (by repeat (first | exact Below.refl _ _ | apply bGrow | apply bAlloc | apply Below.drew | apply bDrewN | apply bIter))) hs).mono ?_
        rintro e w1 ⟨rfl, hb1⟩
        obtain ⟨⟨d1, os1⟩, rfl⟩ := beyond_of hb1
        go_wp2_with fail
        go_ret
        exact ⟨by rw [HF.out]; rfl, (by repeat (first | exact Below.refl _ _ | apply bGrow | apply bAlloc | apply Below.drew | apply bDrewN | apply bIter))⟩
    · have HF := Lib.hid (show partFault ⟨2, n, s⟩ = textFault s by simp [partFault, h0])
      have hb0 : (textFault s != 0) = true := by simpa using h0
      generalize textFault s = x at *
      have HC := Lib.hid hc
      clear hc hf h0
      go_enter Tryd.func73, Tryd.ntmps73
      go_wp2_with fail
      refine (HC.out _ (hT.later (by repeat (first | exact Below.refl _ _ | apply bGrow | apply bAlloc | apply Below.drew | apply bDrewN | apply bIter))) hs).mono ?_
      rintro e w1 ⟨rfl, hb1⟩
      obtain ⟨⟨d1, os1⟩, rfl⟩ := beyond_of hb1
      go_wp2_with fail
      go_ret
      exact ⟨by rw [HF.out]; rfl, (by repeat (first | exact Below.refl _ _ | apply bGrow | apply bAlloc | apply Below.drew | apply bDrewN | apply bIter))⟩
  have e2 : (k == 2) = false := by simpa using hk2
  by_cases hk13 : k = 1 ∨ k = 3
  · by_cases hn : n < 1 ∨ 4000 < n
    · have HF := Lib.hid (show partFault ⟨k, n, s⟩ = 2 by unfold partFault; rw [if_neg hk2, if_pos hk13, if_pos hn])
      rcases hk13 with rfl | rfl
      all_goals
        rcases hn with hn | hn
        · have hd : decide (n < 1) = true := by simpa using hn
          go_enter Tryd.func73, Tryd.ntmps73
          go_wp2_with fail
          go_ret
          exact ⟨by rw [HF.out]; rfl, (by repeat (first | exact Below.refl _ _ | apply bGrow | apply bAlloc | apply Below.drew | apply bDrewN | apply bIter))⟩
        · have hd : decide (n < 1) = false := by simp; omega
          have hd2 : decide (4000 < n) = true := by simpa using hn
          go_enter Tryd.func73, Tryd.ntmps73
          go_wp2_with fail
          go_ret
          exact ⟨by rw [HF.out]; rfl, (by repeat (first | exact Below.refl _ _ | apply bGrow | apply bAlloc | apply Below.drew | apply bDrewN | apply bIter))⟩
    · have hd : decide (n < 1) = false := by simp; omega
      have hd2 : decide (4000 < n) = false := by simp; omega
      by_cases he : s.toList = []
      · have HF := Lib.hid (show partFault ⟨k, n, s⟩ = 0 by unfold partFault; rw [if_neg hk2, if_pos hk13, if_neg hn, if_neg (by simpa using he)])
        have he1 : (!s.toList.isEmpty) = false := by simpa using he
        clear hn
        rcases hk13 with rfl | rfl
        all_goals
          go_enter Tryd.func73, Tryd.ntmps73
          go_wp2_with fail
          go_ret
          exact ⟨by rw [HF.out]; rfl, (by repeat (first | exact Below.refl _ _ | apply bGrow | apply bAlloc | apply Below.drew | apply bDrewN | apply bIter))⟩
      · have HF := Lib.hid (show partFault ⟨k, n, s⟩ = 4 by unfold partFault; rw [if_neg hk2, if_pos hk13, if_neg hn, if_pos he])
        have he1 : (!s.toList.isEmpty) = true := by simpa using he
        clear hn
        rcases hk13 with rfl | rfl
        all_goals
          go_enter Tryd.func73, Tryd.ntmps73
          go_wp2_with fail
          go_ret
          exact ⟨by rw [HF.out]; rfl, (by repeat (first | exact Below.refl _ _ | apply bGrow | apply bAlloc | apply Below.drew | apply bDrewN | apply bIter))⟩
  · have HF := Lib.hid (show partFault ⟨k, n, s⟩ = 3 by unfold partFault; rw [if_neg hk2, if_neg hk13])
    have e1 : (k == 1) = false := by simp; omega
    have e3 : (k == 3) = false := by simp; omega
    clear hk13
    go_enter Tryd.func73, Tryd.ntmps73
    go_wp2_with fail
    go_ret
    exact ⟨by rw [HF.out]; rfl, (by repeat (first | exact Below.refl _ _ | apply bGrow | apply bAlloc | apply Below.drew | apply bDrewN | apply bIter))⟩
theorem partFault_c (k n : Int) (s : ByteArray) (w : World) (hT : Tabs w) (hs : s.size ≤ 1048576) :
    Calls Tryd.prog 65 #[partV k n s] w fun e w' => e = .returned (.int .i64 (partFault ⟨k, n, s⟩)) ∧ Below w.heap.size w w' := by
  by_cases hk2 : k = 2
  · subst hk2
    have hc := TextFault_c s
    have hf := textFault_cases s
    by_cases h0 : textFault s = 0
    · rw [h0] at hc
      have HC := Lib.hid hc
      clear hc hf
      by_cases he : s.toList = []
      · have HF := Lib.hid (show partFault ⟨2, n, s⟩ = 4 by simp [partFault, h0, he])
        clear h0
        go_enter Tryd.func65, Tryd.ntmps65
        go_wp2_with (go_at_call 31; refine (In_yes _ _ _ _ (by omega) (by omega)).mono ?_; rintro e w' ⟨rfl, rfl⟩)
        refine (HC.out _ (hT.later (by repeat (first | exact Below.refl _ _ | apply bGrow | apply bAlloc | apply Below.drew | apply bDrewN | apply bIter))) hs).mono ?_
        rintro e w1 ⟨rfl, hb1⟩
        obtain ⟨⟨d1, os1⟩, rfl⟩ := beyond_of hb1
        go_wp2_with fail
        go_ret
        exact ⟨by rw [HF.out]; rfl, (by repeat (first | exact Below.refl _ _ | apply bGrow | apply bAlloc | apply Below.drew | apply bDrewN | apply bIter))⟩
      have he1 : s.toList.isEmpty = false := by simpa using he
      by_cases hn : n = 0
      · subst hn
        have HF := Lib.hid (show partFault ⟨2, 0, s⟩ = 0 by simp [partFault, h0, he])
        clear h0
        go_enter Tryd.func65, Tryd.ntmps65
        go_wp2_with (go_at_call 31; refine (In_yes _ _ _ _ (by omega) (by omega)).mono ?_; rintro e w' ⟨rfl, rfl⟩)
        refine (HC.out _ (hT.later (by repeat (first | exact Below.refl _ _ | apply bGrow | apply bAlloc | apply Below.drew | apply bDrewN | apply bIter))) hs).mono ?_
        rintro e w1 ⟨rfl, hb1⟩
        obtain ⟨⟨d1, os1⟩, rfl⟩ := beyond_of hb1
        go_wp2_with fail
        go_ret
        exact ⟨by rw [HF.out]; rfl, (by repeat (first | exact Below.refl _ _ | apply bGrow | apply bAlloc | apply Below.drew | apply bDrewN | apply bIter))⟩
      · have HF := Lib.hid (show partFault ⟨2, n, s⟩ = 4 by simp [partFault, h0, hn])
        have hn1 : (n != 0) = true := by simpa using hn
        clear h0
        go_enter Tryd.func65, Tryd.ntmps65
        go_wp2_with (go_at_call 31; refine (In_yes _ _ _ _ (by omega) (by omega)).mono ?_; rintro e w' ⟨rfl, rfl⟩)
        refine (HC.out _ (hT.later (by repeat (first | exact Below.refl _ _ | apply bGrow | apply bAlloc | apply Below.drew | apply bDrewN | apply bIter))) hs).mono ?_
        rintro e w1 ⟨rfl, hb1⟩
        obtain ⟨⟨d1, os1⟩, rfl⟩ := beyond_of hb1
        go_wp2_with fail
        go_ret
        exact ⟨by rw [HF.out]; rfl, (by repeat (first | exact Below.refl _ _ | apply bGrow | apply bAlloc | apply Below.drew | apply bDrewN | apply bIter))⟩
    · have HF := Lib.hid (show partFault ⟨2, n, s⟩ = textFault s by simp [partFault, h0])
      have hb0 : (textFault s == 0) = false := by simpa using h0
      generalize textFault s = x at *
      have HC := Lib.hid hc
      clear hc hf h0
      go_enter Tryd.func65, Tryd.ntmps65
      go_wp2_with (go_at_call 31; refine (In_yes _ _ _ _ (by omega) (by omega)).mono ?_; rintro e w' ⟨rfl, rfl⟩)
      refine (HC.out _ (hT.later (by repeat (first | exact Below.refl _ _ | apply bGrow | apply bAlloc | apply Below.drew | apply bDrewN | apply bIter))) hs).mono ?_
      rintro e w1 ⟨rfl, hb1⟩
      obtain ⟨⟨d1, os1⟩, rfl⟩ := beyond_of hb1
      go_wp2_with fail
      go_ret
      exact ⟨by rw [HF.out]; rfl, (by repeat (first | exact Below.refl _ _ | apply bGrow | apply bAlloc | apply Below.drew | apply bDrewN | apply bIter))⟩
  have e2 : (k == 2) = false := by simpa using hk2
  by_cases hk13 : k = 1 ∨ k = 3
  · have hkk : 1 ≤ k ∧ k ≤ 3 := by omega
    obtain ⟨hk1, hk3⟩ := hkk
    by_cases hn : n < 1 ∨ 4000 < n
    · have HF := Lib.hid (show partFault ⟨k, n, s⟩ = 2 by unfold partFault; rw [if_neg hk2, if_pos hk13, if_pos hn])
      have HN := Lib.hid hn
      clear hk13 hn
      go_enter Tryd.func65, Tryd.ntmps65
      go_wp2_with fail
      refine (In_yes _ _ _ _ hk1 hk3).mono ?_
      rintro e w' ⟨rfl, rfl⟩
      go_wp2_with fail
      refine (In_no _ _ _ _ HN.out).mono ?_
      rintro e w' ⟨rfl, rfl⟩
      go_wp2_with fail
      go_ret
      exact ⟨by rw [HF.out]; rfl, (by repeat (first | exact Below.refl _ _ | apply bGrow | apply bAlloc | apply Below.drew | apply bDrewN | apply bIter))⟩
    · have hn1 : 1 ≤ n := by omega
      have hn2 : n ≤ 4000 := by omega
      by_cases he : s.toList = []
      · have HF := Lib.hid (show partFault ⟨k, n, s⟩ = 0 by unfold partFault; rw [if_neg hk2, if_pos hk13, if_neg hn, if_neg (by simpa using he)])
        have he1 : (!s.toList.isEmpty) = false := by simpa using he
        clear hn hk13
        go_enter Tryd.func65, Tryd.ntmps65
        go_wp2_with fail
        refine (In_yes _ _ _ _ hk1 hk3).mono ?_
        rintro e w' ⟨rfl, rfl⟩
        go_wp2_with fail
        refine (In_yes _ _ _ _ hn1 hn2).mono ?_
        rintro e w' ⟨rfl, rfl⟩
        go_wp2_with fail
        go_ret
        exact ⟨by rw [HF.out]; rfl, (by repeat (first | exact Below.refl _ _ | apply bGrow | apply bAlloc | apply Below.drew | apply bDrewN | apply bIter))⟩
      · have HF := Lib.hid (show partFault ⟨k, n, s⟩ = 4 by unfold partFault; rw [if_neg hk2, if_pos hk13, if_neg hn, if_pos he])
        have he1 : (!s.toList.isEmpty) = true := by simpa using he
        clear hn hk13
        go_enter Tryd.func65, Tryd.ntmps65
        go_wp2_with fail
        refine (In_yes _ _ _ _ hk1 hk3).mono ?_
        rintro e w' ⟨rfl, rfl⟩
        go_wp2_with fail
        refine (In_yes _ _ _ _ hn1 hn2).mono ?_
        rintro e w' ⟨rfl, rfl⟩
        go_wp2_with fail
        go_ret
        exact ⟨by rw [HF.out]; rfl, (by repeat (first | exact Below.refl _ _ | apply bGrow | apply bAlloc | apply Below.drew | apply bDrewN | apply bIter))⟩
  · have HF := Lib.hid (show partFault ⟨k, n, s⟩ = 3 by unfold partFault; rw [if_neg hk2, if_neg hk13])
    have HN := Lib.hid (show k < 1 ∨ 3 < k by omega)
    clear hk13
    go_enter Tryd.func65, Tryd.ntmps65
    go_wp2_with fail
    refine (In_no _ _ _ _ HN.out).mono ?_
    rintro e w' ⟨rfl, rfl⟩
    go_wp2_with fail
    go_ret
    exact ⟨by rw [HF.out]; rfl, (by repeat (first | exact Below.refl _ _ | apply bGrow | apply bAlloc | apply Below.drew | apply bDrewN | apply bIter))⟩
end Go.Proofs.YtbmdepbmejnlkaaDoor
