/-
  Contract of the reference's LinkMay.
  Contract of the reference's LinkMay.
-/
import Derived.Test.YtbmdepbmejnlkaaDoorRows
import Derived.Test.YtbmdepbmejnlkaaDoorBC
import Derived.Test.YtbmdepbmejnlkaaDoorBA
namespace Go.Proofs.YtbmdepbmejnlkaaDoor
open Go.ChangeShapes Go.WideShapes Go.ChangeAt Go.RowKit
set_option maxRecDepth 100000
theorem LinkMay_n1 (w : World) (l : LinkV) (H : Hid (l.e < 0 ∨ 1048576 < l.e)) :
    Calls Tryd.prog 66 #[l.val] w fun r w' => r = .returned (.bool false) ∧ Below w.heap.size w w' := by
  obtain ⟨e, n, sA, sc, s, qA, qc, q, h⟩ := l
  dsimp only at *
  go_enter Tryd.func66, Tryd.ntmps66
  go_wp2_with fail
  refine (In_no _ _ _ _ H.out).mono ?_
  rintro r wx ⟨rfl, rfl⟩
  go_wp2_with fail
  go_ret
  exact ⟨rfl, (by repeat (first | exact Below.refl _ _ | apply bGrow | apply bAlloc | apply Below.drew | apply bDrewN | apply bIter))⟩
theorem LinkMay_n2 (w : World) (l : LinkV) (a1 : 0 ≤ l.e) (a2 : l.e ≤ 1048576) (H : Hid (l.n < 1 ∨ 1048576 < l.n)) :
    Calls Tryd.prog 66 #[l.val] w fun r w' => r = .returned (.bool false) ∧ Below w.heap.size w w' := by
  obtain ⟨e, n, sA, sc, s, qA, qc, q, h⟩ := l
  dsimp only at *
  go_enter Tryd.func66, Tryd.ntmps66
  go_wp2_with fail
  refine (In_yes _ _ _ _ a1 a2).mono ?_
  rintro r wx ⟨rfl, rfl⟩
  go_wp2_with fail
  refine (In_no _ _ _ _ H.out).mono ?_
  rintro r wx ⟨rfl, rfl⟩
  go_wp2_with fail
  go_ret
  exact ⟨rfl, (by repeat (first | exact Below.refl _ _ | apply bGrow | apply bAlloc | apply Below.drew | apply bDrewN | apply bIter))⟩
theorem LinkMay_n3 (w : World) (l : LinkV) (a1 : 0 ≤ l.e) (a2 : l.e ≤ 1048576) (a3 : 1 ≤ l.n) (a4 : l.n ≤ 1048576) (H : Hid (l.h < 0 ∨ 1048576 < l.h)) :
    Calls Tryd.prog 66 #[l.val] w fun r w' => r = .returned (.bool false) ∧ Below w.heap.size w w' := by
  obtain ⟨e, n, sA, sc, s, qA, qc, q, h⟩ := l
  dsimp only at *
  go_enter Tryd.func66, Tryd.ntmps66
  go_wp2_with fail
  refine (In_yes _ _ _ _ a1 a2).mono ?_
  rintro r wx ⟨rfl, rfl⟩
  go_wp2_with fail
  refine (In_yes _ _ _ _ a3 a4).mono ?_
  rintro r wx ⟨rfl, rfl⟩
  go_wp2_with fail
  refine (In_no _ _ _ _ H.out).mono ?_
  rintro r wx ⟨rfl, rfl⟩
  go_wp2_with fail
  go_ret
  exact ⟨rfl, (by repeat (first | exact Below.refl _ _ | apply bGrow | apply bAlloc | apply Below.drew | apply bDrewN | apply bIter))⟩
set_option maxHeartbeats 1000000 in
theorem LinkMay_lens (w : World) (l : LinkV) (hn : linkNums l) (hl : ¬ linkLens l) :
    Calls Tryd.prog 66 #[l.val] w fun r w' => r = .returned (.bool false) ∧ Below w.heap.size w w' := by
  obtain ⟨⟨a1, a2⟩, ⟨a3, a4⟩, ⟨a5, a6⟩⟩ := hn
  have H := Lib.hid hl
  unfold linkLens at H
  clear hl
  obtain ⟨e, n, sA, sc, s, qA, qc, q, h⟩ := l
  dsimp only at *
  go_enter Tryd.func66, Tryd.ntmps66
  go_wp2_with fail
  refine (In_yes _ _ _ _ a1 a2).mono ?_
  rintro r wx ⟨rfl, rfl⟩
  go_wp2_with fail
  refine (In_yes _ _ _ _ a3 a4).mono ?_
  rintro r wx ⟨rfl, rfl⟩
  go_wp2_with fail
  refine (In_yes _ _ _ _ a5 a6).mono ?_
  rintro r wx ⟨rfl, rfl⟩
  go_wp2_with fail
  all_goals (first | (go_ret; exact ⟨rfl, (by repeat (first | exact Below.refl _ _ | apply bGrow | apply bAlloc | apply Below.drew | apply bDrewN | apply bIter))⟩) | (exfalso; have := H.out; (try simp only [bne_eq_false_iff_eq, ← List.length_eq_zero_iff] at *); omega))
set_option maxHeartbeats 1000000 in
theorem LinkMay_none (w : World) (l : LinkV) (hn : linkNums l) (hl : linkLens l) (hno : ¬ linkNone l) :
    Calls Tryd.prog 66 #[l.val] w fun r w' => r = .returned (.bool false) ∧ Below w.heap.size w w' := by
  obtain ⟨⟨a1, a2⟩, ⟨a3, a4⟩, ⟨a5, a6⟩⟩ := hn
  have H := Lib.hid hl
  have HN := Lib.hid (show l.e = 0 ∧ ¬ (l.s.length = 0 ∧ l.h = 0) by unfold linkNone at hno; exact Classical.not_imp.1 hno)
  unfold linkLens at H
  clear hl hno
  obtain ⟨e, n, sA, sc, s, qA, qc, q, h⟩ := l
  dsimp only at *
  go_enter Tryd.func66, Tryd.ntmps66
  go_wp2_with fail
  refine (In_yes _ _ _ _ a1 a2).mono ?_
  rintro r wx ⟨rfl, rfl⟩
  go_wp2_with fail
  refine (In_yes _ _ _ _ a3 a4).mono ?_
  rintro r wx ⟨rfl, rfl⟩
  go_wp2_with fail
  refine (In_yes _ _ _ _ a5 a6).mono ?_
  rintro r wx ⟨rfl, rfl⟩
  go_wp2_with fail
  all_goals (first | (go_ret; exact ⟨rfl, (by repeat (first | exact Below.refl _ _ | apply bGrow | apply bAlloc | apply Below.drew | apply bDrewN | apply bIter))⟩) | (exfalso; have := H.out; have := HN.out; (try simp only [bne_eq_false_iff_eq, ← List.length_eq_zero_iff] at *); omega))
end Go.Proofs.YtbmdepbmejnlkaaDoor
namespace Go.Proofs.YtbmdepbmejnlkaaDoor
open Go.ChangeShapes Go.WideShapes Go.ChangeAt Go.RowKit
set_option maxRecDepth 100000
set_option maxHeartbeats 1000000 in
theorem LinkMay_g1AA (w : World) (l : LinkV) (a1 : 0 ≤ l.e) (a2 : l.e ≤ 1048576) (a3 : 1 ≤ l.n) (a4 : l.n ≤ 1048576) (a5 : 0 ≤ l.h) (a6 : l.h ≤ 1048576) (_k1 : decide ((8 : Int) < (l.s.length : Int)) = false) (_k2 : decide (l.n - 1 < (l.s.length : Int)) = false) (_k3 : decide (0 < l.q.length) = false) (_k5 : (l.e == 0) = false) (HT : Hid (Tabs w)) (HI : Hid (l.In w))
    (h1 : Hid (∀ W, Tabs W → FramesIn W l.sA l.s → Calls Tryd.prog 92 #[.slice l.sA l.s.length l.sc] W fun e w' => e = .returned (.bool false) ∧ Below W.heap.size W w')) :
    Calls Tryd.prog 66 #[l.val] w fun r w' => r = .returned (.bool false) ∧ Below w.heap.size w w' := by
  obtain ⟨e, n, sA, sc, s, qA, qc, q, h⟩ := l
  dsimp only at *
  go_enter Tryd.func66, Tryd.ntmps66
  go_wp2_with fail
  refine (In_yes _ _ _ _ a1 a2).mono ?_
  rintro r wx ⟨rfl, rfl⟩
  go_wp2_with fail
  refine (In_yes _ _ _ _ a3 a4).mono ?_
  rintro r wx ⟨rfl, rfl⟩
  go_wp2_with fail
  refine (In_yes _ _ _ _ a5 a6).mono ?_
  rintro r wx ⟨rfl, rfl⟩
  go_wp2_with fail
  refine (h1.out _ (HT.out.later (by repeat (first | exact Below.refl _ _ | apply bGrow | apply bAlloc | apply Below.drew | apply bDrewN | apply bIter))) (HI.out.s.later (by repeat (first | exact Below.refl _ _ | apply bGrow | apply bAlloc | apply Below.drew | apply bDrewN | apply bIter)))).mono ?_
  rintro r w1 ⟨rfl, hb1⟩
  go_wp2_with fail
  go_ret
  exact ⟨rfl, box_below' hb1⟩
set_option maxHeartbeats 1000000 in
theorem LinkMay_g1AB (w : World) (l : LinkV) (a1 : 0 ≤ l.e) (a2 : l.e ≤ 1048576) (a3 : 1 ≤ l.n) (a4 : l.n ≤ 1048576) (a5 : 0 ≤ l.h) (a6 : l.h ≤ 1048576) (_k1 : decide ((8 : Int) < (l.s.length : Int)) = false) (_k2 : decide (l.n - 1 < (l.s.length : Int)) = false) (_k3 : decide (0 < l.q.length) = false) (k5 : l.e = 0) (_k6 : decide (0 < l.s.length) = false) (_k7 : decide (0 < l.h) = false) (HT : Hid (Tabs w)) (HI : Hid (l.In w))
    (h1 : Hid (∀ W, Tabs W → FramesIn W l.sA l.s → Calls Tryd.prog 92 #[.slice l.sA l.s.length l.sc] W fun e w' => e = .returned (.bool false) ∧ Below W.heap.size W w')) :
    Calls Tryd.prog 66 #[l.val] w fun r w' => r = .returned (.bool false) ∧ Below w.heap.size w w' := by
  obtain ⟨e, n, sA, sc, s, qA, qc, q, h⟩ := l
  dsimp only at *
  subst k5
  go_enter Tryd.func66, Tryd.ntmps66
  go_wp2_with fail
  refine (In_yes _ _ _ _ a1 a2).mono ?_
  rintro r wx ⟨rfl, rfl⟩
  go_wp2_with fail
  refine (In_yes _ _ _ _ a3 a4).mono ?_
  rintro r wx ⟨rfl, rfl⟩
  go_wp2_with fail
  refine (In_yes _ _ _ _ a5 a6).mono ?_
  rintro r wx ⟨rfl, rfl⟩
  go_wp2_with fail
  refine (h1.out _ (HT.out.later (by repeat (first | exact Below.refl _ _ | apply bGrow | apply bAlloc | apply Below.drew | apply bDrewN | apply bIter))) (HI.out.s.later (by repeat (first | exact Below.refl _ _ | apply bGrow | apply bAlloc | apply Below.drew | apply bDrewN | apply bIter)))).mono ?_
  rintro r w1 ⟨rfl, hb1⟩
  go_wp2_with fail
  go_ret
  exact ⟨rfl, box_below' hb1⟩
set_option maxHeartbeats 1000000 in
theorem LinkMay_g1BA (w : World) (l : LinkV) (a1 : 0 ≤ l.e) (a2 : l.e ≤ 1048576) (a3 : 1 ≤ l.n) (a4 : l.n ≤ 1048576) (a5 : 0 ≤ l.h) (a6 : l.h ≤ 1048576) (_k1 : decide ((8 : Int) < (l.s.length : Int)) = false) (_k2 : decide (l.n - 1 < (l.s.length : Int)) = false) (_k3 : decide (0 < l.q.length) = true) (_k4 : ((l.s.length : Int) != 8) = false) (_k5 : (l.e == 0) = false) (HT : Hid (Tabs w)) (HI : Hid (l.In w))
    (h1 : Hid (∀ W, Tabs W → FramesIn W l.sA l.s → Calls Tryd.prog 92 #[.slice l.sA l.s.length l.sc] W fun e w' => e = .returned (.bool false) ∧ Below W.heap.size W w')) :
    Calls Tryd.prog 66 #[l.val] w fun r w' => r = .returned (.bool false) ∧ Below w.heap.size w w' := by
  obtain ⟨e, n, sA, sc, s, qA, qc, q, h⟩ := l
  dsimp only at *
  go_enter Tryd.func66, Tryd.ntmps66
  go_wp2_with fail
  refine (In_yes _ _ _ _ a1 a2).mono ?_
  rintro r wx ⟨rfl, rfl⟩
  go_wp2_with fail
  refine (In_yes _ _ _ _ a3 a4).mono ?_
  rintro r wx ⟨rfl, rfl⟩
  go_wp2_with fail
  refine (In_yes _ _ _ _ a5 a6).mono ?_
  rintro r wx ⟨rfl, rfl⟩
  go_wp2_with fail
  refine (h1.out _ (HT.out.later (by repeat (first | exact Below.refl _ _ | apply bGrow | apply bAlloc | apply Below.drew | apply bDrewN | apply bIter))) (HI.out.s.later (by repeat (first | exact Below.refl _ _ | apply bGrow | apply bAlloc | apply Below.drew | apply bDrewN | apply bIter)))).mono ?_
  rintro r w1 ⟨rfl, hb1⟩
  go_wp2_with fail
  go_ret
  exact ⟨rfl, box_below' hb1⟩
set_option maxHeartbeats 1000000 in
theorem LinkMay_g1BB (w : World) (l : LinkV) (a1 : 0 ≤ l.e) (a2 : l.e ≤ 1048576) (a3 : 1 ≤ l.n) (a4 : l.n ≤ 1048576) (a5 : 0 ≤ l.h) (a6 : l.h ≤ 1048576) (_k1 : decide ((8 : Int) < (l.s.length : Int)) = false) (_k2 : decide (l.n - 1 < (l.s.length : Int)) = false) (_k3 : decide (0 < l.q.length) = true) (_k4 : ((l.s.length : Int) != 8) = false) (k5 : l.e = 0) (_k6 : decide (0 < l.s.length) = false) (_k7 : decide (0 < l.h) = false) (HT : Hid (Tabs w)) (HI : Hid (l.In w))
    (h1 : Hid (∀ W, Tabs W → FramesIn W l.sA l.s → Calls Tryd.prog 92 #[.slice l.sA l.s.length l.sc] W fun e w' => e = .returned (.bool false) ∧ Below W.heap.size W w')) :
    Calls Tryd.prog 66 #[l.val] w fun r w' => r = .returned (.bool false) ∧ Below w.heap.size w w' := by
  obtain ⟨e, n, sA, sc, s, qA, qc, q, h⟩ := l
  dsimp only at *
  subst k5
  go_enter Tryd.func66, Tryd.ntmps66
  go_wp2_with fail
  refine (In_yes _ _ _ _ a1 a2).mono ?_
  rintro r wx ⟨rfl, rfl⟩
  go_wp2_with fail
  refine (In_yes _ _ _ _ a3 a4).mono ?_
  rintro r wx ⟨rfl, rfl⟩
  go_wp2_with fail
  refine (In_yes _ _ _ _ a5 a6).mono ?_
  rintro r wx ⟨rfl, rfl⟩
  go_wp2_with fail
  refine (h1.out _ (HT.out.later (by repeat (first | exact Below.refl _ _ | apply bGrow | apply bAlloc | apply Below.drew | apply bDrewN | apply bIter))) (HI.out.s.later (by repeat (first | exact Below.refl _ _ | apply bGrow | apply bAlloc | apply Below.drew | apply bDrewN | apply bIter)))).mono ?_
  rintro r w1 ⟨rfl, hb1⟩
  go_wp2_with fail
  go_ret
  exact ⟨rfl, box_below' hb1⟩
theorem LinkMay_g1 (w : World) (l : LinkV) (hn : linkNums l) (hl : linkLens l) (hno : linkNone l) (hT : Tabs w) (hi : l.In w)
    (h1 : Hid (∀ W, Tabs W → FramesIn W l.sA l.s → Calls Tryd.prog 92 #[.slice l.sA l.s.length l.sc] W fun e w' => e = .returned (.bool false) ∧ Below W.heap.size W w')) :
    Calls Tryd.prog 66 #[l.val] w fun r w' => r = .returned (.bool false) ∧ Below w.heap.size w w' := by
  obtain ⟨⟨a1, a2⟩, ⟨a3, a4⟩, ⟨a5, a6⟩⟩ := hn
  unfold linkLens at hl
  unfold linkNone at hno
  have k1 : decide ((8 : Int) < (l.s.length : Int)) = false := by simp; omega
  have k2 : decide (l.n - 1 < (l.s.length : Int)) = false := by simp; omega
  by_cases hq : 0 < l.q.length
  · have k3 : decide (0 < l.q.length) = true := decide_eq_true hq
    have k4 : ((l.s.length : Int) != 8) = false := by simp; omega
    by_cases he : l.e = 0
    · have k6 : decide (0 < l.s.length) = false := decide_eq_false (by have := hno he; omega)
      have k7 : decide (0 < l.h) = false := decide_eq_false (by have := hno he; omega)
      exact LinkMay_g1BB w l a1 a2 a3 a4 a5 a6 k1 k2 k3 k4 he k6 k7 hT hi h1
    · exact LinkMay_g1BA w l a1 a2 a3 a4 a5 a6 k1 k2 k3 k4 (by simpa using he) hT hi h1
  · have k3 : decide (0 < l.q.length) = false := decide_eq_false hq
    by_cases he : l.e = 0
    · have k6 : decide (0 < l.s.length) = false := decide_eq_false (by have := hno he; omega)
      have k7 : decide (0 < l.h) = false := decide_eq_false (by have := hno he; omega)
      exact LinkMay_g1AB w l a1 a2 a3 a4 a5 a6 k1 k2 k3 he k6 k7 hT hi h1
    · exact LinkMay_g1AA w l a1 a2 a3 a4 a5 a6 k1 k2 k3 (by simpa using he) hT hi h1
set_option maxHeartbeats 1000000 in
theorem LinkMay_g2AA (w : World) (l : LinkV) (a1 : 0 ≤ l.e) (a2 : l.e ≤ 1048576) (a3 : 1 ≤ l.n) (a4 : l.n ≤ 1048576) (a5 : 0 ≤ l.h) (a6 : l.h ≤ 1048576) (_k1 : decide ((8 : Int) < (l.s.length : Int)) = false) (_k2 : decide (l.n - 1 < (l.s.length : Int)) = false) (_k3 : decide (0 < l.q.length) = false) (_k5 : (l.e == 0) = false) (HT : Hid (Tabs w)) (HI : Hid (l.In w))
    (h1 : Hid (∀ W, Tabs W → FramesIn W l.sA l.s → Calls Tryd.prog 92 #[.slice l.sA l.s.length l.sc] W fun e w' => e = .returned (.bool true) ∧ Below W.heap.size W w'))
    (h2 : Hid (∀ W, Tabs W → FramesIn W l.qA l.q → Calls Tryd.prog 92 #[.slice l.qA l.q.length l.qc] W fun e w' => e = .returned (.bool false) ∧ Below W.heap.size W w')) :
    Calls Tryd.prog 66 #[l.val] w fun r w' => r = .returned (.bool false) ∧ Below w.heap.size w w' := by
  obtain ⟨e, n, sA, sc, s, qA, qc, q, h⟩ := l
  dsimp only at *
  go_enter Tryd.func66, Tryd.ntmps66
  go_wp2_with fail
  refine (In_yes _ _ _ _ a1 a2).mono ?_
  rintro r wx ⟨rfl, rfl⟩
  go_wp2_with fail
  refine (In_yes _ _ _ _ a3 a4).mono ?_
  rintro r wx ⟨rfl, rfl⟩
  go_wp2_with fail
  refine (In_yes _ _ _ _ a5 a6).mono ?_
  rintro r wx ⟨rfl, rfl⟩
  go_wp2_with fail
  refine (h1.out _ (HT.out.later (by repeat (first | exact Below.refl _ _ | apply bGrow | apply bAlloc | apply Below.drew | apply bDrewN | apply bIter))) (HI.out.s.later (by repeat (first | exact Below.refl _ _ | apply bGrow | apply bAlloc | apply Below.drew | apply bDrewN | apply bIter)))).mono ?_
  rintro r w1 ⟨rfl, hb1⟩
  have x3 := box_at' hb1 3
  simp at x3
  go_wp2_with fail
  refine (h2.out _ (HT.out.later (box_below' hb1)) (HI.out.q.later (box_below' hb1))).mono ?_
  rintro r w2 ⟨rfl, hb2⟩
  go_wp2_with fail
  go_ret
  exact ⟨rfl, bThen (box_below' hb1) hb2⟩
set_option maxHeartbeats 1000000 in
theorem LinkMay_g2AB (w : World) (l : LinkV) (a1 : 0 ≤ l.e) (a2 : l.e ≤ 1048576) (a3 : 1 ≤ l.n) (a4 : l.n ≤ 1048576) (a5 : 0 ≤ l.h) (a6 : l.h ≤ 1048576) (_k1 : decide ((8 : Int) < (l.s.length : Int)) = false) (_k2 : decide (l.n - 1 < (l.s.length : Int)) = false) (_k3 : decide (0 < l.q.length) = false) (k5 : l.e = 0) (_k6 : decide (0 < l.s.length) = false) (_k7 : decide (0 < l.h) = false) (HT : Hid (Tabs w)) (HI : Hid (l.In w))
    (h1 : Hid (∀ W, Tabs W → FramesIn W l.sA l.s → Calls Tryd.prog 92 #[.slice l.sA l.s.length l.sc] W fun e w' => e = .returned (.bool true) ∧ Below W.heap.size W w'))
    (h2 : Hid (∀ W, Tabs W → FramesIn W l.qA l.q → Calls Tryd.prog 92 #[.slice l.qA l.q.length l.qc] W fun e w' => e = .returned (.bool false) ∧ Below W.heap.size W w')) :
    Calls Tryd.prog 66 #[l.val] w fun r w' => r = .returned (.bool false) ∧ Below w.heap.size w w' := by
  obtain ⟨e, n, sA, sc, s, qA, qc, q, h⟩ := l
  dsimp only at *
  subst k5
  go_enter Tryd.func66, Tryd.ntmps66
  go_wp2_with fail
  refine (In_yes _ _ _ _ a1 a2).mono ?_
  rintro r wx ⟨rfl, rfl⟩
  go_wp2_with fail
  refine (In_yes _ _ _ _ a3 a4).mono ?_
  rintro r wx ⟨rfl, rfl⟩
  go_wp2_with fail
  refine (In_yes _ _ _ _ a5 a6).mono ?_
  rintro r wx ⟨rfl, rfl⟩
  go_wp2_with fail
  refine (h1.out _ (HT.out.later (by repeat (first | exact Below.refl _ _ | apply bGrow | apply bAlloc | apply Below.drew | apply bDrewN | apply bIter))) (HI.out.s.later (by repeat (first | exact Below.refl _ _ | apply bGrow | apply bAlloc | apply Below.drew | apply bDrewN | apply bIter)))).mono ?_
  rintro r w1 ⟨rfl, hb1⟩
  have x3 := box_at' hb1 3
  simp at x3
  go_wp2_with fail
  refine (h2.out _ (HT.out.later (box_below' hb1)) (HI.out.q.later (box_below' hb1))).mono ?_
  rintro r w2 ⟨rfl, hb2⟩
  go_wp2_with fail
  go_ret
  exact ⟨rfl, bThen (box_below' hb1) hb2⟩
set_option maxHeartbeats 1000000 in
theorem LinkMay_g2BA (w : World) (l : LinkV) (a1 : 0 ≤ l.e) (a2 : l.e ≤ 1048576) (a3 : 1 ≤ l.n) (a4 : l.n ≤ 1048576) (a5 : 0 ≤ l.h) (a6 : l.h ≤ 1048576) (_k1 : decide ((8 : Int) < (l.s.length : Int)) = false) (_k2 : decide (l.n - 1 < (l.s.length : Int)) = false) (_k3 : decide (0 < l.q.length) = true) (_k4 : ((l.s.length : Int) != 8) = false) (_k5 : (l.e == 0) = false) (HT : Hid (Tabs w)) (HI : Hid (l.In w))
    (h1 : Hid (∀ W, Tabs W → FramesIn W l.sA l.s → Calls Tryd.prog 92 #[.slice l.sA l.s.length l.sc] W fun e w' => e = .returned (.bool true) ∧ Below W.heap.size W w'))
    (h2 : Hid (∀ W, Tabs W → FramesIn W l.qA l.q → Calls Tryd.prog 92 #[.slice l.qA l.q.length l.qc] W fun e w' => e = .returned (.bool false) ∧ Below W.heap.size W w')) :
    Calls Tryd.prog 66 #[l.val] w fun r w' => r = .returned (.bool false) ∧ Below w.heap.size w w' := by
  obtain ⟨e, n, sA, sc, s, qA, qc, q, h⟩ := l
  dsimp only at *
  go_enter Tryd.func66, Tryd.ntmps66
  go_wp2_with fail
  refine (In_yes _ _ _ _ a1 a2).mono ?_
  rintro r wx ⟨rfl, rfl⟩
  go_wp2_with fail
  refine (In_yes _ _ _ _ a3 a4).mono ?_
  rintro r wx ⟨rfl, rfl⟩
  go_wp2_with fail
  refine (In_yes _ _ _ _ a5 a6).mono ?_
  rintro r wx ⟨rfl, rfl⟩
  go_wp2_with fail
  refine (h1.out _ (HT.out.later (by repeat (first | exact Below.refl _ _ | apply bGrow | apply bAlloc | apply Below.drew | apply bDrewN | apply bIter))) (HI.out.s.later (by repeat (first | exact Below.refl _ _ | apply bGrow | apply bAlloc | apply Below.drew | apply bDrewN | apply bIter)))).mono ?_
  rintro r w1 ⟨rfl, hb1⟩
  have x3 := box_at' hb1 3
  simp at x3
  go_wp2_with fail
  refine (h2.out _ (HT.out.later (box_below' hb1)) (HI.out.q.later (box_below' hb1))).mono ?_
  rintro r w2 ⟨rfl, hb2⟩
  go_wp2_with fail
  go_ret
  exact ⟨rfl, bThen (box_below' hb1) hb2⟩
set_option maxHeartbeats 1000000 in
theorem LinkMay_g2BB (w : World) (l : LinkV) (a1 : 0 ≤ l.e) (a2 : l.e ≤ 1048576) (a3 : 1 ≤ l.n) (a4 : l.n ≤ 1048576) (a5 : 0 ≤ l.h) (a6 : l.h ≤ 1048576) (_k1 : decide ((8 : Int) < (l.s.length : Int)) = false) (_k2 : decide (l.n - 1 < (l.s.length : Int)) = false) (_k3 : decide (0 < l.q.length) = true) (_k4 : ((l.s.length : Int) != 8) = false) (k5 : l.e = 0) (_k6 : decide (0 < l.s.length) = false) (_k7 : decide (0 < l.h) = false) (HT : Hid (Tabs w)) (HI : Hid (l.In w))
    (h1 : Hid (∀ W, Tabs W → FramesIn W l.sA l.s → Calls Tryd.prog 92 #[.slice l.sA l.s.length l.sc] W fun e w' => e = .returned (.bool true) ∧ Below W.heap.size W w'))
    (h2 : Hid (∀ W, Tabs W → FramesIn W l.qA l.q → Calls Tryd.prog 92 #[.slice l.qA l.q.length l.qc] W fun e w' => e = .returned (.bool false) ∧ Below W.heap.size W w')) :
    Calls Tryd.prog 66 #[l.val] w fun r w' => r = .returned (.bool false) ∧ Below w.heap.size w w' := by
  obtain ⟨e, n, sA, sc, s, qA, qc, q, h⟩ := l
  dsimp only at *
  subst k5
  go_enter Tryd.func66, Tryd.ntmps66
  go_wp2_with fail
  refine (In_yes _ _ _ _ a1 a2).mono ?_
  rintro r wx ⟨rfl, rfl⟩
  go_wp2_with fail
  refine (In_yes _ _ _ _ a3 a4).mono ?_
  rintro r wx ⟨rfl, rfl⟩
  go_wp2_with fail
  refine (In_yes _ _ _ _ a5 a6).mono ?_
  rintro r wx ⟨rfl, rfl⟩
  go_wp2_with fail
  refine (h1.out _ (HT.out.later (by repeat (first | exact Below.refl _ _ | apply bGrow | apply bAlloc | apply Below.drew | apply bDrewN | apply bIter))) (HI.out.s.later (by repeat (first | exact Below.refl _ _ | apply bGrow | apply bAlloc | apply Below.drew | apply bDrewN | apply bIter)))).mono ?_
  rintro r w1 ⟨rfl, hb1⟩
  have x3 := box_at' hb1 3
  simp at x3
  go_wp2_with fail
  refine (h2.out _ (HT.out.later (box_below' hb1)) (HI.out.q.later (box_below' hb1))).mono ?_
  rintro r w2 ⟨rfl, hb2⟩
  go_wp2_with fail
  go_ret
  exact ⟨rfl, bThen (box_below' hb1) hb2⟩
theorem LinkMay_g2 (w : World) (l : LinkV) (hn : linkNums l) (hl : linkLens l) (hno : linkNone l) (hT : Tabs w) (hi : l.In w)
    (h1 : Hid (∀ W, Tabs W → FramesIn W l.sA l.s → Calls Tryd.prog 92 #[.slice l.sA l.s.length l.sc] W fun e w' => e = .returned (.bool true) ∧ Below W.heap.size W w'))
    (h2 : Hid (∀ W, Tabs W → FramesIn W l.qA l.q → Calls Tryd.prog 92 #[.slice l.qA l.q.length l.qc] W fun e w' => e = .returned (.bool false) ∧ Below W.heap.size W w')) :
    Calls Tryd.prog 66 #[l.val] w fun r w' => r = .returned (.bool false) ∧ Below w.heap.size w w' := by
  obtain ⟨⟨a1, a2⟩, ⟨a3, a4⟩, ⟨a5, a6⟩⟩ := hn
  unfold linkLens at hl
  unfold linkNone at hno
  have k1 : decide ((8 : Int) < (l.s.length : Int)) = false := by simp; omega
  have k2 : decide (l.n - 1 < (l.s.length : Int)) = false := by simp; omega
  by_cases hq : 0 < l.q.length
  · have k3 : decide (0 < l.q.length) = true := decide_eq_true hq
    have k4 : ((l.s.length : Int) != 8) = false := by simp; omega
    by_cases he : l.e = 0
    · have k6 : decide (0 < l.s.length) = false := decide_eq_false (by have := hno he; omega)
      have k7 : decide (0 < l.h) = false := decide_eq_false (by have := hno he; omega)
      exact LinkMay_g2BB w l a1 a2 a3 a4 a5 a6 k1 k2 k3 k4 he k6 k7 hT hi h1 h2
    · exact LinkMay_g2BA w l a1 a2 a3 a4 a5 a6 k1 k2 k3 k4 (by simpa using he) hT hi h1 h2
  · have k3 : decide (0 < l.q.length) = false := decide_eq_false hq
    by_cases he : l.e = 0
    · have k6 : decide (0 < l.s.length) = false := decide_eq_false (by have := hno he; omega)
      have k7 : decide (0 < l.h) = false := decide_eq_false (by have := hno he; omega)
      exact LinkMay_g2AB w l a1 a2 a3 a4 a5 a6 k1 k2 k3 he k6 k7 hT hi h1 h2
    · exact LinkMay_g2AA w l a1 a2 a3 a4 a5 a6 k1 k2 k3 (by simpa using he) hT hi h1 h2
set_option maxHeartbeats 1000000 in
theorem LinkMay_g3AA (w : World) (l : LinkV) (a1 : 0 ≤ l.e) (a2 : l.e ≤ 1048576) (a3 : 1 ≤ l.n) (a4 : l.n ≤ 1048576) (a5 : 0 ≤ l.h) (a6 : l.h ≤ 1048576) (_k1 : decide ((8 : Int) < (l.s.length : Int)) = false) (_k2 : decide (l.n - 1 < (l.s.length : Int)) = false) (_k3 : decide (0 < l.q.length) = false) (_k5 : (l.e == 0) = false) (HT : Hid (Tabs w)) (HI : Hid (l.In w))
    (h1 : Hid (∀ W, Tabs W → FramesIn W l.sA l.s → Calls Tryd.prog 92 #[.slice l.sA l.s.length l.sc] W fun e w' => e = .returned (.bool true) ∧ Below W.heap.size W w'))
    (h2 : Hid (∀ W, Tabs W → FramesIn W l.qA l.q → Calls Tryd.prog 92 #[.slice l.qA l.q.length l.qc] W fun e w' => e = .returned (.bool true) ∧ Below W.heap.size W w')) :
    Calls Tryd.prog 66 #[l.val] w fun r w' => r = .returned (.bool true) ∧ Below w.heap.size w w' := by
  obtain ⟨e, n, sA, sc, s, qA, qc, q, h⟩ := l
  dsimp only at *
  go_enter Tryd.func66, Tryd.ntmps66
  go_wp2_with fail
  refine (In_yes _ _ _ _ a1 a2).mono ?_
  rintro r wx ⟨rfl, rfl⟩
  go_wp2_with fail
  refine (In_yes _ _ _ _ a3 a4).mono ?_
  rintro r wx ⟨rfl, rfl⟩
  go_wp2_with fail
  refine (In_yes _ _ _ _ a5 a6).mono ?_
  rintro r wx ⟨rfl, rfl⟩
  go_wp2_with fail
  refine (h1.out _ (HT.out.later (by repeat (first | exact Below.refl _ _ | apply bGrow | apply bAlloc | apply Below.drew | apply bDrewN | apply bIter))) (HI.out.s.later (by repeat (first | exact Below.refl _ _ | apply bGrow | apply bAlloc | apply Below.drew | apply bDrewN | apply bIter)))).mono ?_
  rintro r w1 ⟨rfl, hb1⟩
  have x3 := box_at' hb1 3
  simp at x3
  go_wp2_with fail
  refine (h2.out _ (HT.out.later (box_below' hb1)) (HI.out.q.later (box_below' hb1))).mono ?_
  rintro r w2 ⟨rfl, hb2⟩
  go_wp2_with fail
  go_ret
  exact ⟨rfl, bThen (box_below' hb1) hb2⟩
set_option maxHeartbeats 1000000 in
theorem LinkMay_g3AB (w : World) (l : LinkV) (a1 : 0 ≤ l.e) (a2 : l.e ≤ 1048576) (a3 : 1 ≤ l.n) (a4 : l.n ≤ 1048576) (a5 : 0 ≤ l.h) (a6 : l.h ≤ 1048576) (_k1 : decide ((8 : Int) < (l.s.length : Int)) = false) (_k2 : decide (l.n - 1 < (l.s.length : Int)) = false) (_k3 : decide (0 < l.q.length) = false) (k5 : l.e = 0) (_k6 : decide (0 < l.s.length) = false) (_k7 : decide (0 < l.h) = false) (HT : Hid (Tabs w)) (HI : Hid (l.In w))
    (h1 : Hid (∀ W, Tabs W → FramesIn W l.sA l.s → Calls Tryd.prog 92 #[.slice l.sA l.s.length l.sc] W fun e w' => e = .returned (.bool true) ∧ Below W.heap.size W w'))
    (h2 : Hid (∀ W, Tabs W → FramesIn W l.qA l.q → Calls Tryd.prog 92 #[.slice l.qA l.q.length l.qc] W fun e w' => e = .returned (.bool true) ∧ Below W.heap.size W w')) :
    Calls Tryd.prog 66 #[l.val] w fun r w' => r = .returned (.bool true) ∧ Below w.heap.size w w' := by
  obtain ⟨e, n, sA, sc, s, qA, qc, q, h⟩ := l
  dsimp only at *
  subst k5
  go_enter Tryd.func66, Tryd.ntmps66
  go_wp2_with fail
  refine (In_yes _ _ _ _ a1 a2).mono ?_
  rintro r wx ⟨rfl, rfl⟩
  go_wp2_with fail
  refine (In_yes _ _ _ _ a3 a4).mono ?_
  rintro r wx ⟨rfl, rfl⟩
  go_wp2_with fail
  refine (In_yes _ _ _ _ a5 a6).mono ?_
  rintro r wx ⟨rfl, rfl⟩
  go_wp2_with fail
  refine (h1.out _ (HT.out.later (by repeat (first | exact Below.refl _ _ | apply bGrow | apply bAlloc | apply Below.drew | apply bDrewN | apply bIter))) (HI.out.s.later (by repeat (first | exact Below.refl _ _ | apply bGrow | apply bAlloc | apply Below.drew | apply bDrewN | apply bIter)))).mono ?_
  rintro r w1 ⟨rfl, hb1⟩
  have x3 := box_at' hb1 3
  simp at x3
  go_wp2_with fail
  refine (h2.out _ (HT.out.later (box_below' hb1)) (HI.out.q.later (box_below' hb1))).mono ?_
  rintro r w2 ⟨rfl, hb2⟩
  go_wp2_with fail
  go_ret
  exact ⟨rfl, bThen (box_below' hb1) hb2⟩
set_option maxHeartbeats 1000000 in
theorem LinkMay_g3BA (w : World) (l : LinkV) (a1 : 0 ≤ l.e) (a2 : l.e ≤ 1048576) (a3 : 1 ≤ l.n) (a4 : l.n ≤ 1048576) (a5 : 0 ≤ l.h) (a6 : l.h ≤ 1048576) (_k1 : decide ((8 : Int) < (l.s.length : Int)) = false) (_k2 : decide (l.n - 1 < (l.s.length : Int)) = false) (_k3 : decide (0 < l.q.length) = true) (_k4 : ((l.s.length : Int) != 8) = false) (_k5 : (l.e == 0) = false) (HT : Hid (Tabs w)) (HI : Hid (l.In w))
    (h1 : Hid (∀ W, Tabs W → FramesIn W l.sA l.s → Calls Tryd.prog 92 #[.slice l.sA l.s.length l.sc] W fun e w' => e = .returned (.bool true) ∧ Below W.heap.size W w'))
    (h2 : Hid (∀ W, Tabs W → FramesIn W l.qA l.q → Calls Tryd.prog 92 #[.slice l.qA l.q.length l.qc] W fun e w' => e = .returned (.bool true) ∧ Below W.heap.size W w')) :
    Calls Tryd.prog 66 #[l.val] w fun r w' => r = .returned (.bool true) ∧ Below w.heap.size w w' := by
  obtain ⟨e, n, sA, sc, s, qA, qc, q, h⟩ := l
  dsimp only at *
  go_enter Tryd.func66, Tryd.ntmps66
  go_wp2_with fail
  refine (In_yes _ _ _ _ a1 a2).mono ?_
  rintro r wx ⟨rfl, rfl⟩
  go_wp2_with fail
  refine (In_yes _ _ _ _ a3 a4).mono ?_
  rintro r wx ⟨rfl, rfl⟩
  go_wp2_with fail
  refine (In_yes _ _ _ _ a5 a6).mono ?_
  rintro r wx ⟨rfl, rfl⟩
  go_wp2_with fail
  refine (h1.out _ (HT.out.later (by repeat (first | exact Below.refl _ _ | apply bGrow | apply bAlloc | apply Below.drew | apply bDrewN | apply bIter))) (HI.out.s.later (by repeat (first | exact Below.refl _ _ | apply bGrow | apply bAlloc | apply Below.drew | apply bDrewN | apply bIter)))).mono ?_
  rintro r w1 ⟨rfl, hb1⟩
  have x3 := box_at' hb1 3
  simp at x3
  go_wp2_with fail
  refine (h2.out _ (HT.out.later (box_below' hb1)) (HI.out.q.later (box_below' hb1))).mono ?_
  rintro r w2 ⟨rfl, hb2⟩
  go_wp2_with fail
  go_ret
  exact ⟨rfl, bThen (box_below' hb1) hb2⟩
set_option maxHeartbeats 1000000 in
theorem LinkMay_g3BB (w : World) (l : LinkV) (a1 : 0 ≤ l.e) (a2 : l.e ≤ 1048576) (a3 : 1 ≤ l.n) (a4 : l.n ≤ 1048576) (a5 : 0 ≤ l.h) (a6 : l.h ≤ 1048576) (_k1 : decide ((8 : Int) < (l.s.length : Int)) = false) (_k2 : decide (l.n - 1 < (l.s.length : Int)) = false) (_k3 : decide (0 < l.q.length) = true) (_k4 : ((l.s.length : Int) != 8) = false) (k5 : l.e = 0) (_k6 : decide (0 < l.s.length) = false) (_k7 : decide (0 < l.h) = false) (HT : Hid (Tabs w)) (HI : Hid (l.In w))
    (h1 : Hid (∀ W, Tabs W → FramesIn W l.sA l.s → Calls Tryd.prog 92 #[.slice l.sA l.s.length l.sc] W fun e w' => e = .returned (.bool true) ∧ Below W.heap.size W w'))
    (h2 : Hid (∀ W, Tabs W → FramesIn W l.qA l.q → Calls Tryd.prog 92 #[.slice l.qA l.q.length l.qc] W fun e w' => e = .returned (.bool true) ∧ Below W.heap.size W w')) :
    Calls Tryd.prog 66 #[l.val] w fun r w' => r = .returned (.bool true) ∧ Below w.heap.size w w' := by
  obtain ⟨e, n, sA, sc, s, qA, qc, q, h⟩ := l
  dsimp only at *
  subst k5
  go_enter Tryd.func66, Tryd.ntmps66
  go_wp2_with fail
  refine (In_yes _ _ _ _ a1 a2).mono ?_
  rintro r wx ⟨rfl, rfl⟩
  go_wp2_with fail
  refine (In_yes _ _ _ _ a3 a4).mono ?_
  rintro r wx ⟨rfl, rfl⟩
  go_wp2_with fail
  refine (In_yes _ _ _ _ a5 a6).mono ?_
  rintro r wx ⟨rfl, rfl⟩
  go_wp2_with fail
  refine (h1.out _ (HT.out.later (by repeat (first | exact Below.refl _ _ | apply bGrow | apply bAlloc | apply Below.drew | apply bDrewN | apply bIter))) (HI.out.s.later (by repeat (first | exact Below.refl _ _ | apply bGrow | apply bAlloc | apply Below.drew | apply bDrewN | apply bIter)))).mono ?_
  rintro r w1 ⟨rfl, hb1⟩
  have x3 := box_at' hb1 3
  simp at x3
  go_wp2_with fail
  refine (h2.out _ (HT.out.later (box_below' hb1)) (HI.out.q.later (box_below' hb1))).mono ?_
  rintro r w2 ⟨rfl, hb2⟩
  go_wp2_with fail
  go_ret
  exact ⟨rfl, bThen (box_below' hb1) hb2⟩
theorem LinkMay_g3 (w : World) (l : LinkV) (hn : linkNums l) (hl : linkLens l) (hno : linkNone l) (hT : Tabs w) (hi : l.In w)
    (h1 : Hid (∀ W, Tabs W → FramesIn W l.sA l.s → Calls Tryd.prog 92 #[.slice l.sA l.s.length l.sc] W fun e w' => e = .returned (.bool true) ∧ Below W.heap.size W w'))
    (h2 : Hid (∀ W, Tabs W → FramesIn W l.qA l.q → Calls Tryd.prog 92 #[.slice l.qA l.q.length l.qc] W fun e w' => e = .returned (.bool true) ∧ Below W.heap.size W w')) :
    Calls Tryd.prog 66 #[l.val] w fun r w' => r = .returned (.bool true) ∧ Below w.heap.size w w' := by
  obtain ⟨⟨a1, a2⟩, ⟨a3, a4⟩, ⟨a5, a6⟩⟩ := hn
  unfold linkLens at hl
  unfold linkNone at hno
  have k1 : decide ((8 : Int) < (l.s.length : Int)) = false := by simp; omega
  have k2 : decide (l.n - 1 < (l.s.length : Int)) = false := by simp; omega
  by_cases hq : 0 < l.q.length
  · have k3 : decide (0 < l.q.length) = true := decide_eq_true hq
    have k4 : ((l.s.length : Int) != 8) = false := by simp; omega
    by_cases he : l.e = 0
    · have k6 : decide (0 < l.s.length) = false := decide_eq_false (by have := hno he; omega)
      have k7 : decide (0 < l.h) = false := decide_eq_false (by have := hno he; omega)
      exact LinkMay_g3BB w l a1 a2 a3 a4 a5 a6 k1 k2 k3 k4 he k6 k7 hT hi h1 h2
    · exact LinkMay_g3BA w l a1 a2 a3 a4 a5 a6 k1 k2 k3 k4 (by simpa using he) hT hi h1 h2
  · have k3 : decide (0 < l.q.length) = false := decide_eq_false hq
    by_cases he : l.e = 0
    · have k6 : decide (0 < l.s.length) = false := decide_eq_false (by have := hno he; omega)
      have k7 : decide (0 < l.h) = false := decide_eq_false (by have := hno he; omega)
      exact LinkMay_g3AB w l a1 a2 a3 a4 a5 a6 k1 k2 k3 he k6 k7 hT hi h1 h2
    · exact LinkMay_g3AA w l a1 a2 a3 a4 a5 a6 k1 k2 k3 (by simpa using he) hT hi h1 h2
theorem LinkMay_c (w : World) (l : LinkV) (hT : Tabs w) (hi : l.In w) (hm : l.Small) :
    Calls Tryd.prog 66 #[l.val] w fun r w' => r = .returned (.bool (decide (linkMay l))) ∧ Below w.heap.size w w' := by
  have g1 := fun W hT hs => framesMay_c W l.sA l.sc l.s hT hs hm.sl hm.s
  have g2 := fun W hT hs => framesMay_c W l.qA l.qc l.q hT hs hm.ql hm.q
  by_cases hn : linkNums l
  · by_cases hl : linkLens l
    · by_cases hno : linkNone l
      · by_cases f1 : framesOk l.s
        · rw [decide_eq_true f1] at g1
          by_cases f2 : framesOk l.q
          · rw [decide_eq_true f2] at g2
            rw [decide_eq_true (show linkMay l from ⟨hn, hl, ⟨f1, f2⟩, hno⟩)]
            exact LinkMay_g3 w l hn hl hno hT hi g1 g2
          · rw [decide_eq_false f2] at g2
            rw [decide_eq_false (show ¬ linkMay l from fun q => f2 q.2.2.1.2)]
            exact LinkMay_g2 w l hn hl hno hT hi g1 g2
        · rw [decide_eq_false f1] at g1
          rw [decide_eq_false (show ¬ linkMay l from fun q => f1 q.2.2.1.1)]
          exact LinkMay_g1 w l hn hl hno hT hi g1
      · rw [decide_eq_false (show ¬ linkMay l from fun q => hno q.2.2.2)]
        exact LinkMay_none w l hn hl hno
    · rw [decide_eq_false (show ¬ linkMay l from fun q => hl q.2.1)]
      exact LinkMay_lens w l hn hl
  · rw [decide_eq_false (show ¬ linkMay l from fun q => hn q.1)]
    by_cases q1 : l.e < 0 ∨ 1048576 < l.e
    · exact LinkMay_n1 w l q1
    · by_cases q2 : l.n < 1 ∨ 1048576 < l.n
      · exact LinkMay_n2 w l (by omega) (by omega) q2
      · exact LinkMay_n3 w l (by omega) (by omega) (by omega) (by omega) (Lib.hid (by unfold linkNums at hn; omega))
end Go.Proofs.YtbmdepbmejnlkaaDoor
