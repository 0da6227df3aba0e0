/-
  Contract of the reference's LinkMay.
-/
import Derived.Test.YtbmdepbmejnlkaaDoorRows
import Derived.Test.YtbmdepbmejnlkaaDoorLinkC
import Derived.Test.YtbmdepbmejnlkaaDoorIn
namespace Go.Proofs.YtbmdepbmejnlkaaDoor
open Go.ChangeShapes Go.WideShapes Go.ChangeAt Go.RowKit
set_option maxRecDepth 100000
theorem LinkMay_n1 (w : World) (l : LinkV) (H : Hid (l.e < 0 ∨ 1048576 < l.e)) :
    Calls Tryd.prog 66 #[l.val] w fun r w' => r = .returned (.bool false) ∧ Below w.heap.size w w' := by
  obtain ⟨e, n, sA, sc, s, qA, qc, q, h⟩ := l
  dsimp only at *
  go_enter Tryd.func66, Tryd.ntmps66
  go_wp2_with fail
  refine (In_no _ _ _ _ H.out).mono ?_
  rintro r wx ⟨rfl, rfl⟩
  go_wp2_with fail
  go_ret
  exact ⟨rfl, (by repeat (first | exact Below.refl _ _ | apply bGrow | apply bAlloc | apply Below.drew | apply bDrewN | apply bIter))⟩
theorem LinkMay_n2 (w : World) (l : LinkV) (a1 : 0 ≤ l.e) (a2 : l.e ≤ 1048576) (H : Hid (l.n < 1 ∨ 1048576 < l.n)) :
    Calls Tryd.prog 66 #[l.val] w fun r w' => r = .returned (.bool false) ∧ Below w.heap.size w w' := by
  obtain ⟨e, n, sA, sc, s, qA, qc, q, h⟩ := l
  dsimp only at *
  go_enter Tryd.func66, Tryd.ntmps66
  go_wp2_with fail
  refine (In_yes _ _ _ _ a1 a2).mono ?_
  rintro r wx ⟨rfl, rfl⟩
  go_wp2_with fail
  refine (In_no _ _ _ _ H.out).mono ?_
  rintro r wx ⟨rfl, rfl⟩
  go_wp2_with fail
  go_ret
  exact ⟨rfl, (by repeat (first | exact Below.refl _ _ | apply bGrow | apply bAlloc | apply Below.drew | apply bDrewN | apply bIter))⟩
theorem LinkMay_n3 (w : World) (l : LinkV) (a1 : 0 ≤ l.e) (a2 : l.e ≤ 1048576) (a3 : 1 ≤ l.n) (a4 : l.n ≤ 1048576) (H : Hid (l.h < 0 ∨ 1048576 < l.h)) :
    Calls Tryd.prog 66 #[l.val] w fun r w' => r = .returned (.bool false) ∧ Below w.heap.size w w' := by
  obtain ⟨e, n, sA, sc, s, qA, qc, q, h⟩ := l
  dsimp only at *
  go_enter Tryd.func66, Tryd.ntmps66
  go_wp2_with fail
  refine (In_yes _ _ _ _ a1 a2).mono ?_
  rintro r wx ⟨rfl, rfl⟩
  go_wp2_with fail
  refine (In_yes _ _ _ _ a3 a4).mono ?_
  rintro r wx ⟨rfl, rfl⟩
  go_wp2_with fail
  refine (In_no _ _ _ _ H.out).mono ?_
  rintro r wx ⟨rfl, rfl⟩
  go_wp2_with fail
  go_ret
  exact ⟨rfl, (by repeat (first | exact Below.refl _ _ | apply bGrow | apply bAlloc | apply Below.drew | apply bDrewN | apply bIter))⟩
set_option maxHeartbeats 1000000 in
theorem LinkMay_lens (w : World) (l : LinkV) (hn : linkNums l) (hl : ¬ linkLens l) :
    Calls Tryd.prog 66 #[l.val] w fun r w' => r = .returned (.bool false) ∧ Below w.heap.size w w' := by
  obtain ⟨⟨a1, a2⟩, ⟨a3, a4⟩, ⟨a5, a6⟩⟩ := hn
  have H := Lib.hid hl
  unfold linkLens at H
  clear hl
  obtain ⟨e, n, sA, sc, s, qA, qc, q, h⟩ := l
  dsimp only at *
  go_enter Tryd.func66, Tryd.ntmps66
  go_wp2_with fail
  refine (In_yes _ _ _ _ a1 a2).mono ?_
  rintro r wx ⟨rfl, rfl⟩
  go_wp2_with fail
  refine (In_yes _ _ _ _ a3 a4).mono ?_
  rintro r wx ⟨rfl, rfl⟩
  go_wp2_with fail
  refine (In_yes _ _ _ _ a5 a6).mono ?_
  rintro r wx ⟨rfl, rfl⟩
  go_wp2_with fail
  all_goals (first | (go_ret; exact ⟨rfl, (by repeat (first | exact Below.refl _ _ | apply bGrow | apply bAlloc | apply Below.drew | apply bDrewN | apply bIter))⟩) | (exfalso; have := H.out; (try simp only [bne_eq_false_iff_eq, ← List.length_eq_zero_iff] at *); omega))
set_option maxHeartbeats 1000000 in
theorem LinkMay_none (w : World) (l : LinkV) (hn : linkNums l) (hl : linkLens l) (hno : ¬ linkNone l) :
    Calls Tryd.prog 66 #[l.val] w fun r w' => r = .returned (.bool false) ∧ Below w.heap.size w w' := by
  obtain ⟨⟨a1, a2⟩, ⟨a3, a4⟩, ⟨a5, a6⟩⟩ := hn
  have H := Lib.hid hl
  have HN := Lib.hid (show l.e = 0 ∧ ¬ (l.s.length = 0 ∧ l.h = 0) by unfold linkNone at hno; exact Classical.not_imp.1 hno)
  unfold linkLens at H
  clear hl hno
  obtain ⟨e, n, sA, sc, s, qA, qc, q, h⟩ := l
  dsimp only at *
  go_enter Tryd.func66, Tryd.ntmps66
  go_wp2_with fail
  refine (In_yes _ _ _ _ a1 a2).mono ?_
  rintro r wx ⟨rfl, rfl⟩
  go_wp2_with fail
  refine (In_yes _ _ _ _ a3 a4).mono ?_
  rintro r wx ⟨rfl, rfl⟩
  go_wp2_with fail
  refine (In_yes _ _ _ _ a5 a6).mono ?_
  rintro r wx ⟨rfl, rfl⟩
  go_wp2_with fail
  all_goals (first | (go_ret; exact ⟨rfl, (by repeat (first | exact Below.refl _ _ | apply bGrow | apply bAlloc | apply Below.drew | apply bDrewN | apply bIter))⟩) | (exfalso; have := H.out; have := HN.out; (try simp only [bne_eq_false_iff_eq, ← List.length_eq_zero_iff] at *); omega))
end Go.Proofs.YtbmdepbmejnlkaaDoor
