/- A part of the proof of NodeUndoes. -/
import Derived.Test.YtacacoklddogmaaGreatDoorKBC
namespace Go.Proofs.YtacacoklddogmaaGreatDoor
set_option maxHeartbeats 4000000
open Go.ChangeShapes Go.WideShapes Go.ChangeAt Go.RowKit
set_option maxRecDepth 100000
theorem ta_ (w : World) (l : LinkV) (H : Hid (l.e < 0 ∨ 1048576 < l.e)) :
 Calls Tryz.prog 105 #[l.val] w (R_ w (.bool false)) := by
 obtain ⟨e, n, sA, sc, s, qA, qc, q, h⟩ := l
 dsimp only at *
 go_enter Tryz.func105, Tryz.ntmps105
 go_wp2_with fail
 refine (In_no _ _ _ _ H.out).mono ?_
 rintro r wx ⟨rfl, rfl⟩
 go_wp2_with fail
 go_ret
 exact ⟨rfl, bz_⟩
theorem tb_ (w : World) (l : LinkV) (a1 : 0 ≤ l.e) (a2 : l.e ≤ 1048576) (H : Hid (l.n < 1 ∨ 1048576 < l.n)) :
 Calls Tryz.prog 105 #[l.val] w (R_ w (.bool false)) := by
 obtain ⟨e, n, sA, sc, s, qA, qc, q, h⟩ := l
 dsimp only at *
 go_enter Tryz.func105, Tryz.ntmps105
 go_wp2_with fail
 refine (c_ _ _ _ _ a1 a2).mono ?_
 rintro r wx ⟨rfl, rfl⟩
 go_wp2_with fail
 refine (In_no _ _ _ _ H.out).mono ?_
 rintro r wx ⟨rfl, rfl⟩
 go_wp2_with fail
 go_ret
 exact ⟨rfl, bz_⟩
theorem tc_ (w : World) (l : LinkV) (a1 : 0 ≤ l.e) (a2 : l.e ≤ 1048576) (a3 : 1 ≤ l.n) (a4 : l.n ≤ 1048576) (H : Hid (l.h < 0 ∨ 1048576 < l.h)) :
 Calls Tryz.prog 105 #[l.val] w (R_ w (.bool false)) := by
 obtain ⟨e, n, sA, sc, s, qA, qc, q, h⟩ := l
 dsimp only at *
 go_enter Tryz.func105, Tryz.ntmps105
 go_wp2_with fail
 refine (c_ _ _ _ _ a1 a2).mono ?_
 rintro r wx ⟨rfl, rfl⟩
 go_wp2_with fail
 refine (c_ _ _ _ _ a3 a4).mono ?_
 rintro r wx ⟨rfl, rfl⟩
 go_wp2_with fail
 refine (In_no _ _ _ _ H.out).mono ?_
 rintro r wx ⟨rfl, rfl⟩
 go_wp2_with fail
 go_ret
 exact ⟨rfl, bz_⟩
theorem pj_ (w : World) (l : LinkV) (hn : linkNums l) (hl : ¬ linkLens l) :
 Calls Tryz.prog 105 #[l.val] w (R_ w (.bool false)) := by
 obtain ⟨⟨a1, a2⟩, ⟨a3, a4⟩, ⟨a5, a6⟩⟩ := hn
 have H := h_ hl
 unfold linkLens at H
 clear hl
 obtain ⟨e, n, sA, sc, s, qA, qc, q, h⟩ := l
 dsimp only at *
 go_enter Tryz.func105, Tryz.ntmps105
 go_wp2_with fail
 refine (c_ _ _ _ _ a1 a2).mono ?_
 rintro r wx ⟨rfl, rfl⟩
 go_wp2_with fail
 refine (c_ _ _ _ _ a3 a4).mono ?_
 rintro r wx ⟨rfl, rfl⟩
 go_wp2_with fail
 refine (c_ _ _ _ _ a5 a6).mono ?_
 rintro r wx ⟨rfl, rfl⟩
 go_wp2_with fail
 all_goals (first | (go_ret; exact ⟨rfl, bz_⟩) | (exfalso; have := H.out; (try simp only [bne_eq_false_iff_eq, ← List.length_eq_zero_iff] at *); omega))
theorem pk_ (w : World) (l : LinkV) (hn : linkNums l) (hl : linkLens l) (hno : ¬ linkNone l) :
 Calls Tryz.prog 105 #[l.val] w (R_ w (.bool false)) := by
 obtain ⟨⟨a1, a2⟩, ⟨a3, a4⟩, ⟨a5, a6⟩⟩ := hn
 have H := h_ hl
 have HN := h_ (show l.e = 0 ∧ ¬ (l.s.length = 0 ∧ l.h = 0) by unfold linkNone at hno; exact Classical.not_imp.1 hno)
 unfold linkLens at H
 clear hl hno
 obtain ⟨e, n, sA, sc, s, qA, qc, q, h⟩ := l
 dsimp only at *
 go_enter Tryz.func105, Tryz.ntmps105
 go_wp2_with fail
 refine (c_ _ _ _ _ a1 a2).mono ?_
 rintro r wx ⟨rfl, rfl⟩
 go_wp2_with fail
 refine (c_ _ _ _ _ a3 a4).mono ?_
 rintro r wx ⟨rfl, rfl⟩
 go_wp2_with fail
 refine (c_ _ _ _ _ a5 a6).mono ?_
 rintro r wx ⟨rfl, rfl⟩
 go_wp2_with fail
 all_goals (first | (go_ret; exact ⟨rfl, bz_⟩) | (exfalso; have := H.out; have := HN.out; (try simp only [bne_eq_false_iff_eq, ← List.length_eq_zero_iff] at *); omega))
theorem ox_ (w : World) (l : LinkV) (a1 : 0 ≤ l.e) (a2 : l.e ≤ 1048576) (a3 : 1 ≤ l.n) (a4 : l.n ≤ 1048576) (a5 : 0 ≤ l.h) (a6 : l.h ≤ 1048576) (_k1 : decide ((8 : Int) < (l.s.length : Int)) = false) (_k2 : decide (l.n - 1 < (l.s.length : Int)) = false) (_k3 : decide (0 < l.q.length) = false) (_k5 : (l.e == 0) = false) (HT : Hid (Tabs w)) (HI : Hid (l.In w))
 (h1 : Hid (∀ W, Tabs W → FramesIn W l.sA l.s → Calls Tryz.prog 129 #[.slice l.sA l.s.length l.sc] W (R_ W (.bool false)))) :
 Calls Tryz.prog 105 #[l.val] w (R_ w (.bool false)) := by
 obtain ⟨e, n, sA, sc, s, qA, qc, q, h⟩ := l
 dsimp only at *
 go_enter Tryz.func105, Tryz.ntmps105
 go_wp2_with fail
 refine (c_ _ _ _ _ a1 a2).mono ?_
 rintro r wx ⟨rfl, rfl⟩
 go_wp2_with fail
 refine (c_ _ _ _ _ a3 a4).mono ?_
 rintro r wx ⟨rfl, rfl⟩
 go_wp2_with fail
 refine (c_ _ _ _ _ a5 a6).mono ?_
 rintro r wx ⟨rfl, rfl⟩
 go_wp2_with fail
 refine (h1.out _ (HT.out.later bz_) (HI.out.s.later bz_)).mono ?_
 rintro r w1 ⟨rfl, hb1⟩
 go_wp2_with fail
 go_ret
 exact ⟨rfl, p_ hb1⟩
theorem oy_ (w : World) (l : LinkV) (a1 : 0 ≤ l.e) (a2 : l.e ≤ 1048576) (a3 : 1 ≤ l.n) (a4 : l.n ≤ 1048576) (a5 : 0 ≤ l.h) (a6 : l.h ≤ 1048576) (_k1 : decide ((8 : Int) < (l.s.length : Int)) = false) (_k2 : decide (l.n - 1 < (l.s.length : Int)) = false) (_k3 : decide (0 < l.q.length) = false) (k5 : l.e = 0) (_k6 : decide (0 < l.s.length) = false) (_k7 : decide (0 < l.h) = false) (HT : Hid (Tabs w)) (HI : Hid (l.In w))
 (h1 : Hid (∀ W, Tabs W → FramesIn W l.sA l.s → Calls Tryz.prog 129 #[.slice l.sA l.s.length l.sc] W (R_ W (.bool false)))) :
 Calls Tryz.prog 105 #[l.val] w (R_ w (.bool false)) := by
 obtain ⟨e, n, sA, sc, s, qA, qc, q, h⟩ := l
 dsimp only at *
 subst k5
 go_enter Tryz.func105, Tryz.ntmps105
 go_wp2_with fail
 refine (c_ _ _ _ _ a1 a2).mono ?_
 rintro r wx ⟨rfl, rfl⟩
 go_wp2_with fail
 refine (c_ _ _ _ _ a3 a4).mono ?_
 rintro r wx ⟨rfl, rfl⟩
 go_wp2_with fail
 refine (c_ _ _ _ _ a5 a6).mono ?_
 rintro r wx ⟨rfl, rfl⟩
 go_wp2_with fail
 refine (h1.out _ (HT.out.later bz_) (HI.out.s.later bz_)).mono ?_
 rintro r w1 ⟨rfl, hb1⟩
 go_wp2_with fail
 go_ret
 exact ⟨rfl, p_ hb1⟩
theorem oz_ (w : World) (l : LinkV) (a1 : 0 ≤ l.e) (a2 : l.e ≤ 1048576) (a3 : 1 ≤ l.n) (a4 : l.n ≤ 1048576) (a5 : 0 ≤ l.h) (a6 : l.h ≤ 1048576) (_k1 : decide ((8 : Int) < (l.s.length : Int)) = false) (_k2 : decide (l.n - 1 < (l.s.length : Int)) = false) (_k3 : decide (0 < l.q.length) = true) (_k4 : ((l.s.length : Int) != 8) = false) (_k5 : (l.e == 0) = false) (HT : Hid (Tabs w)) (HI : Hid (l.In w))
 (h1 : Hid (∀ W, Tabs W → FramesIn W l.sA l.s → Calls Tryz.prog 129 #[.slice l.sA l.s.length l.sc] W (R_ W (.bool false)))) :
 Calls Tryz.prog 105 #[l.val] w (R_ w (.bool false)) := by
 obtain ⟨e, n, sA, sc, s, qA, qc, q, h⟩ := l
 dsimp only at *
 go_enter Tryz.func105, Tryz.ntmps105
 go_wp2_with fail
 refine (c_ _ _ _ _ a1 a2).mono ?_
 rintro r wx ⟨rfl, rfl⟩
 go_wp2_with fail
 refine (c_ _ _ _ _ a3 a4).mono ?_
 rintro r wx ⟨rfl, rfl⟩
 go_wp2_with fail
 refine (c_ _ _ _ _ a5 a6).mono ?_
 rintro r wx ⟨rfl, rfl⟩
 go_wp2_with fail
 refine (h1.out _ (HT.out.later bz_) (HI.out.s.later bz_)).mono ?_
 rintro r w1 ⟨rfl, hb1⟩
 go_wp2_with fail
 go_ret
 exact ⟨rfl, p_ hb1⟩
theorem pa_ (w : World) (l : LinkV) (a1 : 0 ≤ l.e) (a2 : l.e ≤ 1048576) (a3 : 1 ≤ l.n) (a4 : l.n ≤ 1048576) (a5 : 0 ≤ l.h) (a6 : l.h ≤ 1048576) (_k1 : decide ((8 : Int) < (l.s.length : Int)) = false) (_k2 : decide (l.n - 1 < (l.s.length : Int)) = false) (_k3 : decide (0 < l.q.length) = true) (_k4 : ((l.s.length : Int) != 8) = false) (k5 : l.e = 0) (_k6 : decide (0 < l.s.length) = false) (_k7 : decide (0 < l.h) = false) (HT : Hid (Tabs w)) (HI : Hid (l.In w))
 (h1 : Hid (∀ W, Tabs W → FramesIn W l.sA l.s → Calls Tryz.prog 129 #[.slice l.sA l.s.length l.sc] W (R_ W (.bool false)))) :
 Calls Tryz.prog 105 #[l.val] w (R_ w (.bool false)) := by
 obtain ⟨e, n, sA, sc, s, qA, qc, q, h⟩ := l
 dsimp only at *
 subst k5
 go_enter Tryz.func105, Tryz.ntmps105
 go_wp2_with fail
 refine (c_ _ _ _ _ a1 a2).mono ?_
 rintro r wx ⟨rfl, rfl⟩
 go_wp2_with fail
 refine (c_ _ _ _ _ a3 a4).mono ?_
 rintro r wx ⟨rfl, rfl⟩
 go_wp2_with fail
 refine (c_ _ _ _ _ a5 a6).mono ?_
 rintro r wx ⟨rfl, rfl⟩
 go_wp2_with fail
 refine (h1.out _ (HT.out.later bz_) (HI.out.s.later bz_)).mono ?_
 rintro r w1 ⟨rfl, hb1⟩
 go_wp2_with fail
 go_ret
 exact ⟨rfl, p_ hb1⟩
theorem sx_ (w : World) (l : LinkV) (hn : linkNums l) (hl : linkLens l) (hno : linkNone l) (hT : Tabs w) (hi : l.In w)
 (h1 : Hid (∀ W, Tabs W → FramesIn W l.sA l.s → Calls Tryz.prog 129 #[.slice l.sA l.s.length l.sc] W (R_ W (.bool false)))) :
 Calls Tryz.prog 105 #[l.val] w (R_ w (.bool false)) := by
 obtain ⟨⟨a1, a2⟩, ⟨a3, a4⟩, ⟨a5, a6⟩⟩ := hn
 unfold linkLens at hl
 unfold linkNone at hno
 have k1 : decide ((8 : Int) < (l.s.length : Int)) = false := by simp; omega
 have k2 : decide (l.n - 1 < (l.s.length : Int)) = false := by simp; omega
 by_cases hq : 0 < l.q.length
 · have k3 : decide (0 < l.q.length) = true := decide_eq_true hq
   have k4 : ((l.s.length : Int) != 8) = false := by simp; omega
   by_cases he : l.e = 0
   · have k6 : decide (0 < l.s.length) = false := decide_eq_false (by have := hno he; omega)
     have k7 : decide (0 < l.h) = false := decide_eq_false (by have := hno he; omega)
     exact pa_ w l a1 a2 a3 a4 a5 a6 k1 k2 k3 k4 he k6 k7 hT hi h1
   · exact oz_ w l a1 a2 a3 a4 a5 a6 k1 k2 k3 k4 (by simpa using he) hT hi h1
 · have k3 : decide (0 < l.q.length) = false := decide_eq_false hq
   by_cases he : l.e = 0
   · have k6 : decide (0 < l.s.length) = false := decide_eq_false (by have := hno he; omega)
     have k7 : decide (0 < l.h) = false := decide_eq_false (by have := hno he; omega)
     exact oy_ w l a1 a2 a3 a4 a5 a6 k1 k2 k3 he k6 k7 hT hi h1
   · exact ox_ w l a1 a2 a3 a4 a5 a6 k1 k2 k3 (by simpa using he) hT hi h1
theorem pb_ (w : World) (l : LinkV) (a1 : 0 ≤ l.e) (a2 : l.e ≤ 1048576) (a3 : 1 ≤ l.n) (a4 : l.n ≤ 1048576) (a5 : 0 ≤ l.h) (a6 : l.h ≤ 1048576) (_k1 : decide ((8 : Int) < (l.s.length : Int)) = false) (_k2 : decide (l.n - 1 < (l.s.length : Int)) = false) (_k3 : decide (0 < l.q.length) = false) (_k5 : (l.e == 0) = false) (HT : Hid (Tabs w)) (HI : Hid (l.In w))
 (h1 : Hid (∀ W, Tabs W → FramesIn W l.sA l.s → Calls Tryz.prog 129 #[.slice l.sA l.s.length l.sc] W (R_ W (.bool true))))
 (h2 : Hid (∀ W, Tabs W → FramesIn W l.qA l.q → Calls Tryz.prog 129 #[.slice l.qA l.q.length l.qc] W (R_ W (.bool false)))) :
 Calls Tryz.prog 105 #[l.val] w (R_ w (.bool false)) := by
 obtain ⟨e, n, sA, sc, s, qA, qc, q, h⟩ := l
 dsimp only at *
 go_enter Tryz.func105, Tryz.ntmps105
 go_wp2_with fail
 refine (c_ _ _ _ _ a1 a2).mono ?_
 rintro r wx ⟨rfl, rfl⟩
 go_wp2_with fail
 refine (c_ _ _ _ _ a3 a4).mono ?_
 rintro r wx ⟨rfl, rfl⟩
 go_wp2_with fail
 refine (c_ _ _ _ _ a5 a6).mono ?_
 rintro r wx ⟨rfl, rfl⟩
 go_wp2_with fail
 refine (h1.out _ (HT.out.later bz_) (HI.out.s.later bz_)).mono ?_
 rintro r w1 ⟨rfl, hb1⟩
 have x3 := bu_ hb1 3
 simp at x3
 go_wp2_with fail
 refine (h2.out _ (HT.out.later (p_ hb1)) (HI.out.q.later (p_ hb1))).mono ?_
 rintro r w2 ⟨rfl, hb2⟩
 go_wp2_with fail
 go_ret
 exact ⟨rfl, bThen (p_ hb1) hb2⟩
theorem pc_ (w : World) (l : LinkV) (a1 : 0 ≤ l.e) (a2 : l.e ≤ 1048576) (a3 : 1 ≤ l.n) (a4 : l.n ≤ 1048576) (a5 : 0 ≤ l.h) (a6 : l.h ≤ 1048576) (_k1 : decide ((8 : Int) < (l.s.length : Int)) = false) (_k2 : decide (l.n - 1 < (l.s.length : Int)) = false) (_k3 : decide (0 < l.q.length) = false) (k5 : l.e = 0) (_k6 : decide (0 < l.s.length) = false) (_k7 : decide (0 < l.h) = false) (HT : Hid (Tabs w)) (HI : Hid (l.In w))
 (h1 : Hid (∀ W, Tabs W → FramesIn W l.sA l.s → Calls Tryz.prog 129 #[.slice l.sA l.s.length l.sc] W (R_ W (.bool true))))
 (h2 : Hid (∀ W, Tabs W → FramesIn W l.qA l.q → Calls Tryz.prog 129 #[.slice l.qA l.q.length l.qc] W (R_ W (.bool false)))) :
 Calls Tryz.prog 105 #[l.val] w (R_ w (.bool false)) := by
 obtain ⟨e, n, sA, sc, s, qA, qc, q, h⟩ := l
 dsimp only at *
 subst k5
 go_enter Tryz.func105, Tryz.ntmps105
 go_wp2_with fail
 refine (c_ _ _ _ _ a1 a2).mono ?_
 rintro r wx ⟨rfl, rfl⟩
 go_wp2_with fail
 refine (c_ _ _ _ _ a3 a4).mono ?_
 rintro r wx ⟨rfl, rfl⟩
 go_wp2_with fail
 refine (c_ _ _ _ _ a5 a6).mono ?_
 rintro r wx ⟨rfl, rfl⟩
 go_wp2_with fail
 refine (h1.out _ (HT.out.later bz_) (HI.out.s.later bz_)).mono ?_
 rintro r w1 ⟨rfl, hb1⟩
 have x3 := bu_ hb1 3
 simp at x3
 go_wp2_with fail
 refine (h2.out _ (HT.out.later (p_ hb1)) (HI.out.q.later (p_ hb1))).mono ?_
 rintro r w2 ⟨rfl, hb2⟩
 go_wp2_with fail
 go_ret
 exact ⟨rfl, bThen (p_ hb1) hb2⟩
theorem pd_ (w : World) (l : LinkV) (a1 : 0 ≤ l.e) (a2 : l.e ≤ 1048576) (a3 : 1 ≤ l.n) (a4 : l.n ≤ 1048576) (a5 : 0 ≤ l.h) (a6 : l.h ≤ 1048576) (_k1 : decide ((8 : Int) < (l.s.length : Int)) = false) (_k2 : decide (l.n - 1 < (l.s.length : Int)) = false) (_k3 : decide (0 < l.q.length) = true) (_k4 : ((l.s.length : Int) != 8) = false) (_k5 : (l.e == 0) = false) (HT : Hid (Tabs w)) (HI : Hid (l.In w))
 (h1 : Hid (∀ W, Tabs W → FramesIn W l.sA l.s → Calls Tryz.prog 129 #[.slice l.sA l.s.length l.sc] W (R_ W (.bool true))))
 (h2 : Hid (∀ W, Tabs W → FramesIn W l.qA l.q → Calls Tryz.prog 129 #[.slice l.qA l.q.length l.qc] W (R_ W (.bool false)))) :
 Calls Tryz.prog 105 #[l.val] w (R_ w (.bool false)) := by
 obtain ⟨e, n, sA, sc, s, qA, qc, q, h⟩ := l
 dsimp only at *
 go_enter Tryz.func105, Tryz.ntmps105
 go_wp2_with fail
 refine (c_ _ _ _ _ a1 a2).mono ?_
 rintro r wx ⟨rfl, rfl⟩
 go_wp2_with fail
 refine (c_ _ _ _ _ a3 a4).mono ?_
 rintro r wx ⟨rfl, rfl⟩
 go_wp2_with fail
 refine (c_ _ _ _ _ a5 a6).mono ?_
 rintro r wx ⟨rfl, rfl⟩
 go_wp2_with fail
 refine (h1.out _ (HT.out.later bz_) (HI.out.s.later bz_)).mono ?_
 rintro r w1 ⟨rfl, hb1⟩
 have x3 := bu_ hb1 3
 simp at x3
 go_wp2_with fail
 refine (h2.out _ (HT.out.later (p_ hb1)) (HI.out.q.later (p_ hb1))).mono ?_
 rintro r w2 ⟨rfl, hb2⟩
 go_wp2_with fail
 go_ret
 exact ⟨rfl, bThen (p_ hb1) hb2⟩
theorem pe_ (w : World) (l : LinkV) (a1 : 0 ≤ l.e) (a2 : l.e ≤ 1048576) (a3 : 1 ≤ l.n) (a4 : l.n ≤ 1048576) (a5 : 0 ≤ l.h) (a6 : l.h ≤ 1048576) (_k1 : decide ((8 : Int) < (l.s.length : Int)) = false) (_k2 : decide (l.n - 1 < (l.s.length : Int)) = false) (_k3 : decide (0 < l.q.length) = true) (_k4 : ((l.s.length : Int) != 8) = false) (k5 : l.e = 0) (_k6 : decide (0 < l.s.length) = false) (_k7 : decide (0 < l.h) = false) (HT : Hid (Tabs w)) (HI : Hid (l.In w))
 (h1 : Hid (∀ W, Tabs W → FramesIn W l.sA l.s → Calls Tryz.prog 129 #[.slice l.sA l.s.length l.sc] W (R_ W (.bool true))))
 (h2 : Hid (∀ W, Tabs W → FramesIn W l.qA l.q → Calls Tryz.prog 129 #[.slice l.qA l.q.length l.qc] W (R_ W (.bool false)))) :
 Calls Tryz.prog 105 #[l.val] w (R_ w (.bool false)) := by
 obtain ⟨e, n, sA, sc, s, qA, qc, q, h⟩ := l
 dsimp only at *
 subst k5
 go_enter Tryz.func105, Tryz.ntmps105
 go_wp2_with fail
 refine (c_ _ _ _ _ a1 a2).mono ?_
 rintro r wx ⟨rfl, rfl⟩
 go_wp2_with fail
 refine (c_ _ _ _ _ a3 a4).mono ?_
 rintro r wx ⟨rfl, rfl⟩
 go_wp2_with fail
 refine (c_ _ _ _ _ a5 a6).mono ?_
 rintro r wx ⟨rfl, rfl⟩
 go_wp2_with fail
 refine (h1.out _ (HT.out.later bz_) (HI.out.s.later bz_)).mono ?_
 rintro r w1 ⟨rfl, hb1⟩
 have x3 := bu_ hb1 3
 simp at x3
 go_wp2_with fail
 refine (h2.out _ (HT.out.later (p_ hb1)) (HI.out.q.later (p_ hb1))).mono ?_
 rintro r w2 ⟨rfl, hb2⟩
 go_wp2_with fail
 go_ret
 exact ⟨rfl, bThen (p_ hb1) hb2⟩
theorem sy_ (w : World) (l : LinkV) (hn : linkNums l) (hl : linkLens l) (hno : linkNone l) (hT : Tabs w) (hi : l.In w)
 (h1 : Hid (∀ W, Tabs W → FramesIn W l.sA l.s → Calls Tryz.prog 129 #[.slice l.sA l.s.length l.sc] W (R_ W (.bool true))))
 (h2 : Hid (∀ W, Tabs W → FramesIn W l.qA l.q → Calls Tryz.prog 129 #[.slice l.qA l.q.length l.qc] W (R_ W (.bool false)))) :
 Calls Tryz.prog 105 #[l.val] w (R_ w (.bool false)) := by
 obtain ⟨⟨a1, a2⟩, ⟨a3, a4⟩, ⟨a5, a6⟩⟩ := hn
 unfold linkLens at hl
 unfold linkNone at hno
 have k1 : decide ((8 : Int) < (l.s.length : Int)) = false := by simp; omega
 have k2 : decide (l.n - 1 < (l.s.length : Int)) = false := by simp; omega
 by_cases hq : 0 < l.q.length
 · have k3 : decide (0 < l.q.length) = true := decide_eq_true hq
   have k4 : ((l.s.length : Int) != 8) = false := by simp; omega
   by_cases he : l.e = 0
   · have k6 : decide (0 < l.s.length) = false := decide_eq_false (by have := hno he; omega)
     have k7 : decide (0 < l.h) = false := decide_eq_false (by have := hno he; omega)
     exact pe_ w l a1 a2 a3 a4 a5 a6 k1 k2 k3 k4 he k6 k7 hT hi h1 h2
   · exact pd_ w l a1 a2 a3 a4 a5 a6 k1 k2 k3 k4 (by simpa using he) hT hi h1 h2
 · have k3 : decide (0 < l.q.length) = false := decide_eq_false hq
   by_cases he : l.e = 0
   · have k6 : decide (0 < l.s.length) = false := decide_eq_false (by have := hno he; omega)
     have k7 : decide (0 < l.h) = false := decide_eq_false (by have := hno he; omega)
     exact pc_ w l a1 a2 a3 a4 a5 a6 k1 k2 k3 he k6 k7 hT hi h1 h2
   · exact pb_ w l a1 a2 a3 a4 a5 a6 k1 k2 k3 (by simpa using he) hT hi h1 h2
theorem pf_ (w : World) (l : LinkV) (a1 : 0 ≤ l.e) (a2 : l.e ≤ 1048576) (a3 : 1 ≤ l.n) (a4 : l.n ≤ 1048576) (a5 : 0 ≤ l.h) (a6 : l.h ≤ 1048576) (_k1 : decide ((8 : Int) < (l.s.length : Int)) = false) (_k2 : decide (l.n - 1 < (l.s.length : Int)) = false) (_k3 : decide (0 < l.q.length) = false) (_k5 : (l.e == 0) = false) (HT : Hid (Tabs w)) (HI : Hid (l.In w))
 (h1 : Hid (∀ W, Tabs W → FramesIn W l.sA l.s → Calls Tryz.prog 129 #[.slice l.sA l.s.length l.sc] W (R_ W (.bool true))))
 (h2 : Hid (∀ W, Tabs W → FramesIn W l.qA l.q → Calls Tryz.prog 129 #[.slice l.qA l.q.length l.qc] W (R_ W (.bool true)))) :
 Calls Tryz.prog 105 #[l.val] w (R_ w (.bool true)) := by
 obtain ⟨e, n, sA, sc, s, qA, qc, q, h⟩ := l
 dsimp only at *
 go_enter Tryz.func105, Tryz.ntmps105
 go_wp2_with fail
 refine (c_ _ _ _ _ a1 a2).mono ?_
 rintro r wx ⟨rfl, rfl⟩
 go_wp2_with fail
 refine (c_ _ _ _ _ a3 a4).mono ?_
 rintro r wx ⟨rfl, rfl⟩
 go_wp2_with fail
 refine (c_ _ _ _ _ a5 a6).mono ?_
 rintro r wx ⟨rfl, rfl⟩
 go_wp2_with fail
 refine (h1.out _ (HT.out.later bz_) (HI.out.s.later bz_)).mono ?_
 rintro r w1 ⟨rfl, hb1⟩
 have x3 := bu_ hb1 3
 simp at x3
 go_wp2_with fail
 refine (h2.out _ (HT.out.later (p_ hb1)) (HI.out.q.later (p_ hb1))).mono ?_
 rintro r w2 ⟨rfl, hb2⟩
 go_wp2_with fail
 go_ret
 exact ⟨rfl, bThen (p_ hb1) hb2⟩
theorem pg_ (w : World) (l : LinkV) (a1 : 0 ≤ l.e) (a2 : l.e ≤ 1048576) (a3 : 1 ≤ l.n) (a4 : l.n ≤ 1048576) (a5 : 0 ≤ l.h) (a6 : l.h ≤ 1048576) (_k1 : decide ((8 : Int) < (l.s.length : Int)) = false) (_k2 : decide (l.n - 1 < (l.s.length : Int)) = false) (_k3 : decide (0 < l.q.length) = false) (k5 : l.e = 0) (_k6 : decide (0 < l.s.length) = false) (_k7 : decide (0 < l.h) = false) (HT : Hid (Tabs w)) (HI : Hid (l.In w))
 (h1 : Hid (∀ W, Tabs W → FramesIn W l.sA l.s → Calls Tryz.prog 129 #[.slice l.sA l.s.length l.sc] W (R_ W (.bool true))))
 (h2 : Hid (∀ W, Tabs W → FramesIn W l.qA l.q → Calls Tryz.prog 129 #[.slice l.qA l.q.length l.qc] W (R_ W (.bool true)))) :
 Calls Tryz.prog 105 #[l.val] w (R_ w (.bool true)) := by
 obtain ⟨e, n, sA, sc, s, qA, qc, q, h⟩ := l
 dsimp only at *
 subst k5
 go_enter Tryz.func105, Tryz.ntmps105
 go_wp2_with fail
 refine (c_ _ _ _ _ a1 a2).mono ?_
 rintro r wx ⟨rfl, rfl⟩
 go_wp2_with fail
 refine (c_ _ _ _ _ a3 a4).mono ?_
 rintro r wx ⟨rfl, rfl⟩
 go_wp2_with fail
 refine (c_ _ _ _ _ a5 a6).mono ?_
 rintro r wx ⟨rfl, rfl⟩
 go_wp2_with fail
 refine (h1.out _ (HT.out.later bz_) (HI.out.s.later bz_)).mono ?_
 rintro r w1 ⟨rfl, hb1⟩
 have x3 := bu_ hb1 3
 simp at x3
 go_wp2_with fail
 refine (h2.out _ (HT.out.later (p_ hb1)) (HI.out.q.later (p_ hb1))).mono ?_
 rintro r w2 ⟨rfl, hb2⟩
 go_wp2_with fail
 go_ret
 exact ⟨rfl, bThen (p_ hb1) hb2⟩
theorem ph_ (w : World) (l : LinkV) (a1 : 0 ≤ l.e) (a2 : l.e ≤ 1048576) (a3 : 1 ≤ l.n) (a4 : l.n ≤ 1048576) (a5 : 0 ≤ l.h) (a6 : l.h ≤ 1048576) (_k1 : decide ((8 : Int) < (l.s.length : Int)) = false) (_k2 : decide (l.n - 1 < (l.s.length : Int)) = false) (_k3 : decide (0 < l.q.length) = true) (_k4 : ((l.s.length : Int) != 8) = false) (_k5 : (l.e == 0) = false) (HT : Hid (Tabs w)) (HI : Hid (l.In w))
 (h1 : Hid (∀ W, Tabs W → FramesIn W l.sA l.s → Calls Tryz.prog 129 #[.slice l.sA l.s.length l.sc] W (R_ W (.bool true))))
 (h2 : Hid (∀ W, Tabs W → FramesIn W l.qA l.q → Calls Tryz.prog 129 #[.slice l.qA l.q.length l.qc] W (R_ W (.bool true)))) :
 Calls Tryz.prog 105 #[l.val] w (R_ w (.bool true)) := by
 obtain ⟨e, n, sA, sc, s, qA, qc, q, h⟩ := l
 dsimp only at *
 go_enter Tryz.func105, Tryz.ntmps105
 go_wp2_with fail
 refine (c_ _ _ _ _ a1 a2).mono ?_
 rintro r wx ⟨rfl, rfl⟩
 go_wp2_with fail
 refine (c_ _ _ _ _ a3 a4).mono ?_
 rintro r wx ⟨rfl, rfl⟩
 go_wp2_with fail
 refine (c_ _ _ _ _ a5 a6).mono ?_
 rintro r wx ⟨rfl, rfl⟩
 go_wp2_with fail
 refine (h1.out _ (HT.out.later bz_) (HI.out.s.later bz_)).mono ?_
 rintro r w1 ⟨rfl, hb1⟩
 have x3 := bu_ hb1 3
 simp at x3
 go_wp2_with fail
 refine (h2.out _ (HT.out.later (p_ hb1)) (HI.out.q.later (p_ hb1))).mono ?_
 rintro r w2 ⟨rfl, hb2⟩
 go_wp2_with fail
 go_ret
 exact ⟨rfl, bThen (p_ hb1) hb2⟩
theorem pi_ (w : World) (l : LinkV) (a1 : 0 ≤ l.e) (a2 : l.e ≤ 1048576) (a3 : 1 ≤ l.n) (a4 : l.n ≤ 1048576) (a5 : 0 ≤ l.h) (a6 : l.h ≤ 1048576) (_k1 : decide ((8 : Int) < (l.s.length : Int)) = false) (_k2 : decide (l.n - 1 < (l.s.length : Int)) = false) (_k3 : decide (0 < l.q.length) = true) (_k4 : ((l.s.length : Int) != 8) = false) (k5 : l.e = 0) (_k6 : decide (0 < l.s.length) = false) (_k7 : decide (0 < l.h) = false) (HT : Hid (Tabs w)) (HI : Hid (l.In w))
 (h1 : Hid (∀ W, Tabs W → FramesIn W l.sA l.s → Calls Tryz.prog 129 #[.slice l.sA l.s.length l.sc] W (R_ W (.bool true))))
 (h2 : Hid (∀ W, Tabs W → FramesIn W l.qA l.q → Calls Tryz.prog 129 #[.slice l.qA l.q.length l.qc] W (R_ W (.bool true)))) :
 Calls Tryz.prog 105 #[l.val] w (R_ w (.bool true)) := by
 obtain ⟨e, n, sA, sc, s, qA, qc, q, h⟩ := l
 dsimp only at *
 subst k5
 go_enter Tryz.func105, Tryz.ntmps105
 go_wp2_with fail
 refine (c_ _ _ _ _ a1 a2).mono ?_
 rintro r wx ⟨rfl, rfl⟩
 go_wp2_with fail
 refine (c_ _ _ _ _ a3 a4).mono ?_
 rintro r wx ⟨rfl, rfl⟩
 go_wp2_with fail
 refine (c_ _ _ _ _ a5 a6).mono ?_
 rintro r wx ⟨rfl, rfl⟩
 go_wp2_with fail
 refine (h1.out _ (HT.out.later bz_) (HI.out.s.later bz_)).mono ?_
 rintro r w1 ⟨rfl, hb1⟩
 have x3 := bu_ hb1 3
 simp at x3
 go_wp2_with fail
 refine (h2.out _ (HT.out.later (p_ hb1)) (HI.out.q.later (p_ hb1))).mono ?_
 rintro r w2 ⟨rfl, hb2⟩
 go_wp2_with fail
 go_ret
 exact ⟨rfl, bThen (p_ hb1) hb2⟩
theorem sz_ (w : World) (l : LinkV) (hn : linkNums l) (hl : linkLens l) (hno : linkNone l) (hT : Tabs w) (hi : l.In w)
 (h1 : Hid (∀ W, Tabs W → FramesIn W l.sA l.s → Calls Tryz.prog 129 #[.slice l.sA l.s.length l.sc] W (R_ W (.bool true))))
 (h2 : Hid (∀ W, Tabs W → FramesIn W l.qA l.q → Calls Tryz.prog 129 #[.slice l.qA l.q.length l.qc] W (R_ W (.bool true)))) :
 Calls Tryz.prog 105 #[l.val] w (R_ w (.bool true)) := by
 obtain ⟨⟨a1, a2⟩, ⟨a3, a4⟩, ⟨a5, a6⟩⟩ := hn
 unfold linkLens at hl
 unfold linkNone at hno
 have k1 : decide ((8 : Int) < (l.s.length : Int)) = false := by simp; omega
 have k2 : decide (l.n - 1 < (l.s.length : Int)) = false := by simp; omega
 by_cases hq : 0 < l.q.length
 · have k3 : decide (0 < l.q.length) = true := decide_eq_true hq
   have k4 : ((l.s.length : Int) != 8) = false := by simp; omega
   by_cases he : l.e = 0
   · have k6 : decide (0 < l.s.length) = false := decide_eq_false (by have := hno he; omega)
     have k7 : decide (0 < l.h) = false := decide_eq_false (by have := hno he; omega)
     exact pi_ w l a1 a2 a3 a4 a5 a6 k1 k2 k3 k4 he k6 k7 hT hi h1 h2
   · exact ph_ w l a1 a2 a3 a4 a5 a6 k1 k2 k3 k4 (by simpa using he) hT hi h1 h2
 · have k3 : decide (0 < l.q.length) = false := decide_eq_false hq
   by_cases he : l.e = 0
   · have k6 : decide (0 < l.s.length) = false := decide_eq_false (by have := hno he; omega)
     have k7 : decide (0 < l.h) = false := decide_eq_false (by have := hno he; omega)
     exact pg_ w l a1 a2 a3 a4 a5 a6 k1 k2 k3 he k6 k7 hT hi h1 h2
   · exact pf_ w l a1 a2 a3 a4 a5 a6 k1 k2 k3 (by simpa using he) hT hi h1 h2
theorem dt_ (w : World) (l : LinkV) (hT : Tabs w) (hi : l.In w) (hm : l.Small) :
 Calls Tryz.prog 105 #[l.val] w (R_ w (.bool (decide (linkMay l)))) := by
 have g1 := fun W hT hs => ja_ W l.sA l.sc l.s hT hs hm.sl hm.s
 have g2 := fun W hT hs => ja_ W l.qA l.qc l.q hT hs hm.ql hm.q
 by_cases hn : linkNums l
 · by_cases hl : linkLens l
   · by_cases hno : linkNone l
     · by_cases f1 : framesOk l.s
       · rw [decide_eq_true f1] at g1
         by_cases f2 : framesOk l.q
         · rw [decide_eq_true f2] at g2
           rw [decide_eq_true (show linkMay l from ⟨hn, hl, ⟨f1, f2⟩, hno⟩)]
           exact sz_ w l hn hl hno hT hi g1 g2
         · rw [decide_eq_false f2] at g2
           rw [decide_eq_false (show ¬ linkMay l from fun q => f2 q.2.2.1.2)]
           exact sy_ w l hn hl hno hT hi g1 g2
       · rw [decide_eq_false f1] at g1
         rw [decide_eq_false (show ¬ linkMay l from fun q => f1 q.2.2.1.1)]
         exact sx_ w l hn hl hno hT hi g1
     · rw [decide_eq_false (show ¬ linkMay l from fun q => hno q.2.2.2)]
       exact pk_ w l hn hl hno
   · rw [decide_eq_false (show ¬ linkMay l from fun q => hl q.2.1)]
     exact pj_ w l hn hl
 · rw [decide_eq_false (show ¬ linkMay l from fun q => hn q.1)]
   by_cases q1 : l.e < 0 ∨ 1048576 < l.e
   · exact ta_ w l q1
   · by_cases q2 : l.n < 1 ∨ 1048576 < l.n
     · exact tb_ w l (by omega) (by omega) q2
     · exact tc_ w l (by omega) (by omega) (by omega) (by omega) (h_ (by unfold linkNums at hn; omega))
end Go.Proofs.YtacacoklddogmaaGreatDoor
