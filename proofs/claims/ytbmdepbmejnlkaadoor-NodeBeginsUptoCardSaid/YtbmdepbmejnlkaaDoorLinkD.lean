/-
  Contracts of link.Check and its reference LinkMay, joined.
-/
import Derived.Test.YtbmdepbmejnlkaaDoorRows
import Derived.Test.YtbmdepbmejnlkaaDoorBC
namespace Go.Proofs.YtbmdepbmejnlkaaDoor
open Go.ChangeShapes Go.WideShapes Go.ChangeAt Go.RowKit
set_option maxRecDepth 100000
set_option maxHeartbeats 1000000 in
theorem LinkCheck_f1 (w : World) (l : LinkV) (hn : linkNums l) (hl : linkLens l) (hT : Tabs w) (hi : l.In w)
    (h1 : Hid (∀ W, Tabs W → FramesIn W l.sA l.s → Calls Tryd.prog 91 #[.slice l.sA l.s.length l.sc] W fun e w' => e = .returned (.bool false) ∧ Below W.heap.size W w')) :
    Calls Tryd.prog 64 #[l.val] w fun r w' => r = .returned (.int .i64 9) ∧ Below w.heap.size w w' := by
  obtain ⟨⟨a1, a2⟩, ⟨a3, a4⟩, ⟨a5, a6⟩⟩ := hn
  have H := Lib.hid hl
  unfold linkLens at H
  have HI := Lib.hid hi
  have HT := Lib.hid hT
  clear hi hT hl
  obtain ⟨e, n, sA, sc, s, qA, qc, q, h⟩ := l
  dsimp only at *
  go_enter Tryd.func64, Tryd.ntmps64
  go_wp2_with fail
  all_goals (first | (exfalso; have := H.out; omega) | skip)
  all_goals
    refine (h1.out _ (HT.out.later (by repeat (first | exact Below.refl _ _ | apply bGrow | apply bAlloc | apply Below.drew | apply bDrewN | apply bIter))) (HI.out.s.later (by repeat (first | exact Below.refl _ _ | apply bGrow | apply bAlloc | apply Below.drew | apply bDrewN | apply bIter)))).mono ?_
    rintro r w1 ⟨rfl, hb1⟩
    go_wp2_with fail
    go_ret
    exact ⟨rfl, box_below' hb1⟩
set_option maxHeartbeats 2000000 in
theorem LinkCheck_f2 (w : World) (l : LinkV) (hn : linkNums l) (hl : linkLens l) (hT : Tabs w) (hi : l.In w)
    (h1 : Hid (∀ W, Tabs W → FramesIn W l.sA l.s → Calls Tryd.prog 91 #[.slice l.sA l.s.length l.sc] W fun e w' => e = .returned (.bool true) ∧ Below W.heap.size W w'))
    (h2 : Hid (∀ W, Tabs W → FramesIn W l.qA l.q → Calls Tryd.prog 91 #[.slice l.qA l.q.length l.qc] W fun e w' => e = .returned (.bool false) ∧ Below W.heap.size W w')) :
    Calls Tryd.prog 64 #[l.val] w fun r w' => r = .returned (.int .i64 9) ∧ Below w.heap.size w w' := by
  obtain ⟨⟨a1, a2⟩, ⟨a3, a4⟩, ⟨a5, a6⟩⟩ := hn
  have l1 := hl.1
  have H := Lib.hid hl
  unfold linkLens at H
  have HI := Lib.hid hi
  have HT := Lib.hid hT
  clear hi hT hl
  obtain ⟨e, n, sA, sc, s, qA, qc, q, h⟩ := l
  dsimp only at *
  go_enter Tryd.func64, Tryd.ntmps64
  go_wp2_with fail
  all_goals (first | (exfalso; have := H.out; omega) | skip)
  all_goals
    refine (h1.out _ (HT.out.later (by repeat (first | exact Below.refl _ _ | apply bGrow | apply bAlloc | apply Below.drew | apply bDrewN | apply bIter))) (HI.out.s.later (by repeat (first | exact Below.refl _ _ | apply bGrow | apply bAlloc | apply Below.drew | apply bDrewN | apply bIter)))).mono ?_
    rintro r w1 ⟨rfl, hb1⟩
    have x3 := box_at' hb1 3
    simp at x3
    go_wp2_with fail
    refine (h2.out _ (HT.out.later (box_below' hb1)) (HI.out.q.later (box_below' hb1))).mono ?_
    rintro r w2 ⟨rfl, hb2⟩
    go_wp2_with fail
    go_ret
    exact ⟨rfl, bThen (box_below' hb1) hb2⟩
set_option maxHeartbeats 2000000 in
theorem LinkCheck_f3 (w : World) (l : LinkV) (hn : linkNums l) (hl : linkLens l) (hno : ¬ linkNone l) (hT : Tabs w) (hi : l.In w)
    (h1 : Hid (∀ W, Tabs W → FramesIn W l.sA l.s → Calls Tryd.prog 91 #[.slice l.sA l.s.length l.sc] W fun e w' => e = .returned (.bool true) ∧ Below W.heap.size W w'))
    (h2 : Hid (∀ W, Tabs W → FramesIn W l.qA l.q → Calls Tryd.prog 91 #[.slice l.qA l.q.length l.qc] W fun e w' => e = .returned (.bool true) ∧ Below W.heap.size W w')) :
    Calls Tryd.prog 64 #[l.val] w fun r w' => r = .returned (.int .i64 9) ∧ Below w.heap.size w w' := by
  obtain ⟨⟨a1, a2⟩, ⟨a3, a4⟩, ⟨a5, a6⟩⟩ := hn
  have l1 := hl.1
  have H := Lib.hid hl
  unfold linkLens at H
  have HI := Lib.hid hi
  have HT := Lib.hid hT
  clear hi hT hl
  have HN := Lib.hid hno
  unfold linkNone at HN
  clear hno
  obtain ⟨e, n, sA, sc, s, qA, qc, q, h⟩ := l
  dsimp only at *
  go_enter Tryd.func64, Tryd.ntmps64
  go_wp2_with fail
  all_goals (first | (exfalso; have := H.out; omega) | skip)
  all_goals
    refine (h1.out _ (HT.out.later (by repeat (first | exact Below.refl _ _ | apply bGrow | apply bAlloc | apply Below.drew | apply bDrewN | apply bIter))) (HI.out.s.later (by repeat (first | exact Below.refl _ _ | apply bGrow | apply bAlloc | apply Below.drew | apply bDrewN | apply bIter)))).mono ?_
    rintro r w1 ⟨rfl, hb1⟩
    have x3 := box_at' hb1 3
    simp at x3
    go_wp2_with fail
    refine (h2.out _ (HT.out.later (box_below' hb1)) (HI.out.q.later (box_below' hb1))).mono ?_
    rintro r w2 ⟨rfl, hb2⟩
    have hlt1 : w.heap.size < w1.heap.size := by have := hb1.size; simp at this; omega
    have y0 := (hb2.cell (p := ⟨w.heap.size, 0, none⟩) hlt1).trans (box_at' hb1 0)
    have y2 := (hb2.cell (p := ⟨w.heap.size, 2, none⟩) hlt1).trans (box_at' hb1 2)
    have y4 := (hb2.cell (p := ⟨w.heap.size, 4, none⟩) hlt1).trans (box_at' hb1 4)
    simp at y0 y2 y4
    have HB := Lib.hid (bThen (box_below' hb1) hb2)
    clear hb1 hb2 x3
    go_wp2_with fail
    all_goals (first | (exfalso; have := HN.out; omega) | (go_ret; exact ⟨rfl, HB.out⟩))
set_option maxHeartbeats 2000000 in
theorem LinkCheck_f4 (w : World) (l : LinkV) (hn : linkNums l) (hl : linkLens l) (hno : linkNone l) (hT : Tabs w) (hi : l.In w)
    (h1 : Hid (∀ W, Tabs W → FramesIn W l.sA l.s → Calls Tryd.prog 91 #[.slice l.sA l.s.length l.sc] W fun e w' => e = .returned (.bool true) ∧ Below W.heap.size W w'))
    (h2 : Hid (∀ W, Tabs W → FramesIn W l.qA l.q → Calls Tryd.prog 91 #[.slice l.qA l.q.length l.qc] W fun e w' => e = .returned (.bool true) ∧ Below W.heap.size W w')) :
    Calls Tryd.prog 64 #[l.val] w fun r w' => r = .returned (.int .i64 0) ∧ Below w.heap.size w w' := by
  obtain ⟨⟨a1, a2⟩, ⟨a3, a4⟩, ⟨a5, a6⟩⟩ := hn
  have l1 := hl.1
  have H := Lib.hid hl
  unfold linkLens at H
  have HI := Lib.hid hi
  have HT := Lib.hid hT
  clear hi hT hl
  have HN := Lib.hid hno
  unfold linkNone at HN
  clear hno
  obtain ⟨e, n, sA, sc, s, qA, qc, q, h⟩ := l
  dsimp only at *
  go_enter Tryd.func64, Tryd.ntmps64
  go_wp2_with fail
  all_goals (first | (exfalso; have := H.out; omega) | skip)
  all_goals
    refine (h1.out _ (HT.out.later (by repeat (first | exact Below.refl _ _ | apply bGrow | apply bAlloc | apply Below.drew | apply bDrewN | apply bIter))) (HI.out.s.later (by repeat (first | exact Below.refl _ _ | apply bGrow | apply bAlloc | apply Below.drew | apply bDrewN | apply bIter)))).mono ?_
    rintro r w1 ⟨rfl, hb1⟩
    have x3 := box_at' hb1 3
    simp at x3
    go_wp2_with fail
    refine (h2.out _ (HT.out.later (box_below' hb1)) (HI.out.q.later (box_below' hb1))).mono ?_
    rintro r w2 ⟨rfl, hb2⟩
    have hlt1 : w.heap.size < w1.heap.size := by have := hb1.size; simp at this; omega
    have y0 := (hb2.cell (p := ⟨w.heap.size, 0, none⟩) hlt1).trans (box_at' hb1 0)
    have y2 := (hb2.cell (p := ⟨w.heap.size, 2, none⟩) hlt1).trans (box_at' hb1 2)
    have y4 := (hb2.cell (p := ⟨w.heap.size, 4, none⟩) hlt1).trans (box_at' hb1 4)
    simp at y0 y2 y4
    have HB := Lib.hid (bThen (box_below' hb1) hb2)
    clear hb1 hb2 x3
    go_wp2_with fail
    all_goals (first | (exfalso; have := HN.out; omega) | (go_ret; exact ⟨rfl, HB.out⟩))
theorem LinkCheck_c (w : World) (l : LinkV) (hT : Tabs w) (hi : l.In w) (hm : l.Small) :
    Calls Tryd.prog 64 #[l.val] w fun r w' => r = .returned (.int .i64 (if linkMay l then 0 else 9)) ∧ Below w.heap.size w w' := by
  have g1 := fun W hT hs => linkFrames_c W l.sA l.sc l.s hT hs hm.sl hm.s
  have g2 := fun W hT hs => linkFrames_c W l.qA l.qc l.q hT hs hm.ql hm.q
  by_cases hn : linkNums l
  · by_cases hl : linkLens l
    · by_cases f1 : framesOk l.s
      · rw [decide_eq_true f1] at g1
        by_cases f2 : framesOk l.q
        · rw [decide_eq_true f2] at g2
          by_cases hno : linkNone l
          · rw [if_pos ⟨hn, hl, ⟨f1, f2⟩, hno⟩]
            exact LinkCheck_f4 w l hn hl hno hT hi g1 g2
          · rw [if_neg (fun q => hno q.2.2.2)]
            exact LinkCheck_f3 w l hn hl hno hT hi g1 g2
        · rw [decide_eq_false f2] at g2
          rw [if_neg (fun q => f2 q.2.2.1.2)]
          exact LinkCheck_f2 w l hn hl hT hi g1 g2
      · rw [decide_eq_false f1] at g1
        rw [if_neg (fun q => f1 q.2.2.1.1)]
        exact LinkCheck_f1 w l hn hl hT hi g1
    · rw [if_neg (fun q => hl q.2.1)]
      exact LinkCheck_lens w l hn hl
  · rw [if_neg (fun q => hn q.1)]
    exact LinkCheck_nums w l hn
end Go.Proofs.YtbmdepbmejnlkaaDoor
