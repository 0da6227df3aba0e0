/-
  Contracts of text.CheckText and its reference TextFault: both give textFault.
-/
import Derived.Test.YtbmdepbmejnlkaaDoorRows
import Derived.Test.YtbmdepbmejnlkaaDoorOps
import Derived.Test.YtbmdepbmejnlkaaDoorLens
import Derived.Test.YtbmdepbmejnlkaaDoorShelf
namespace Go.Proofs.YtbmdepbmejnlkaaDoor
open Go.ChangeShapes Go.WideShapes Go.ChangeAt Go.RowKit
set_option maxRecDepth 100000
/-- unicode/utf8's two tables lie in memory. -/
def Tabs (w : World) : Prop := Lib.Utf8Tabs (Tryd.lays196_ren.g 3) (Tryd.lays196_ren.g 4) w
theorem Tabs.later {w w' : World} (h : Tabs w) (hb : Below w.heap.size w w') : Tabs w' := by
  refine ⟨fun c hc => ?_, fun i hi => ⟨?_, ?_⟩⟩
  · have := h.1 c hc
    rw [hb.cell (p := ⟨_, c, none⟩) (block_lt_of_cell this)]
    exact this
  · have := (h.2 i hi).1
    rw [hb.cell (p := ⟨_, 2 * i, none⟩) (block_lt_of_cell this)]
    exact this
  · have := (h.2 i hi).2
    rw [hb.cell (p := ⟨_, 2 * i + 1, none⟩) (block_lt_of_cell this)]
    exact this
/-- What CheckText answers. -/
def textFault (s : ByteArray) : Int := if Lib.validD s.data.toList = false then 4 else if 4000 < Lib.runeCount s then 1 else 0
theorem valid_c (s : ByteArray) (w : World) (hT : Tabs w) (hs : s.size ≤ 1048576) :
    Calls Tryd.prog 60 #[.string s] w fun e w' => e = .returned (.bool (Lib.validD s.data.toList)) ∧ Below w.heap.size w w' :=
  Tryd.utf8_ValidString s w (by omega) hT
theorem length_c (s : ByteArray) (w : World) (hT : Tabs w) (hs : s.size ≤ 1048576) :
    Calls Tryd.prog 61 #[.string s] w fun e w' => e = .returned (.tuple #[.int .i64 (Lib.runeCount s), .bool (Lib.validD s.data.toList && decide ((Lib.runeCount s : Int) ≤ 4000))]) ∧ Below w.heap.size w w' := by
  have hv := valid_c s
  cases hV : Lib.validD s.data.toList
  all_goals
    have HV := Lib.hid hV
    rw [hV] at hv
    have HC := Lib.hid hv
    clear hV hv
    go_enter Tryd.func61, Tryd.ntmps61
    go_wp2_with fail
    refine (runeCount_c s _ hs).mono ?_
    rintro e w1 ⟨rfl, hb1⟩
    obtain ⟨⟨d1, os1⟩, rfl⟩ := beyond_of hb1
    go_wp2_with fail
    refine (HC.out _ (hT.later (by repeat (first | exact Below.refl _ _ | apply bGrow | apply bAlloc | apply Below.drew | apply bDrewN | apply bIter))) hs).mono ?_
    rintro e w2 ⟨rfl, hb2⟩
    obtain ⟨⟨d2, os2⟩, rfl⟩ := beyond_of hb2
    go_wp2_with fail
    go_ret2
    exact ⟨by simp, (by repeat (first | exact Below.refl _ _ | apply bGrow | apply bAlloc | apply Below.drew | apply bDrewN | apply bIter))⟩
theorem CheckText_c (s : ByteArray) (w : World) (hT : Tabs w) (hs : s.size ≤ 1048576) :
    Calls Tryd.prog 25 #[.string s] w fun e w' => e = .returned (.int .i64 (textFault s)) ∧ Below w.heap.size w w' := by
  have hv := valid_c s
  have hl := length_c s
  cases hV : Lib.validD s.data.toList
  · have HF := Lib.hid (show textFault s = 4 by simp [textFault, hV])
    rw [hV] at hv
    have HC := Lib.hid hv
    clear hV hv hl
    go_enter Tryd.func25, Tryd.ntmps25
    go_wp2_with fail
    refine (HC.out _ hT hs).mono ?_
    rintro e w1 ⟨rfl, hb1⟩
    obtain ⟨⟨d1, os1⟩, rfl⟩ := beyond_of hb1
    go_wp2_with fail
    go_ret
    exact ⟨by rw [HF.out]; rfl, (by repeat (first | exact Below.refl _ _ | apply bGrow | apply bAlloc | apply Below.drew | apply bDrewN | apply bIter))⟩
  by_cases hn : 4000 < Lib.runeCount s
  · have HF := Lib.hid (show textFault s = 1 by simp [textFault, hV, hn])
    have hd : decide ((Lib.runeCount s : Int) ≤ 4000) = false := by simp; omega
    rw [hV] at hv hl
    rw [hd] at hl
    have HC := Lib.hid hv
    have HL := Lib.hid hl
    clear hV hv hl hd hn
    go_enter Tryd.func25, Tryd.ntmps25
    go_wp2_with fail
    refine (HC.out _ hT hs).mono ?_
    rintro e w1 ⟨rfl, hb1⟩
    obtain ⟨⟨d1, os1⟩, rfl⟩ := beyond_of hb1
    go_wp2_with fail
    refine (HL.out _ (hT.later (by repeat (first | exact Below.refl _ _ | apply bGrow | apply bAlloc | apply Below.drew | apply bDrewN | apply bIter))) hs).mono ?_
    rintro e w2 ⟨rfl, hb2⟩
    obtain ⟨⟨d2, os2⟩, rfl⟩ := beyond_of hb2
    go_wp2_with fail
    go_ret
    exact ⟨by rw [HF.out]; rfl, (by repeat (first | exact Below.refl _ _ | apply bGrow | apply bAlloc | apply Below.drew | apply bDrewN | apply bIter))⟩
  · have HF := Lib.hid (show textFault s = 0 by simp [textFault, hV, hn])
    have hd : decide ((Lib.runeCount s : Int) ≤ 4000) = true := by simp; omega
    rw [hV] at hv hl
    rw [hd] at hl
    have HC := Lib.hid hv
    have HL := Lib.hid hl
    clear hV hv hl hd hn
    go_enter Tryd.func25, Tryd.ntmps25
    go_wp2_with fail
    refine (HC.out _ hT hs).mono ?_
    rintro e w1 ⟨rfl, hb1⟩
    obtain ⟨⟨d1, os1⟩, rfl⟩ := beyond_of hb1
    go_wp2_with fail
    refine (HL.out _ (hT.later (by repeat (first | exact Below.refl _ _ | apply bGrow | apply bAlloc | apply Below.drew | apply bDrewN | apply bIter))) hs).mono ?_
    rintro e w2 ⟨rfl, hb2⟩
    obtain ⟨⟨d2, os2⟩, rfl⟩ := beyond_of hb2
    go_wp2_with fail
    go_ret
    exact ⟨by rw [HF.out]; rfl, (by repeat (first | exact Below.refl _ _ | apply bGrow | apply bAlloc | apply Below.drew | apply bDrewN | apply bIter))⟩
theorem TextFault_c (s : ByteArray) (w : World) (hT : Tabs w) (hs : s.size ≤ 1048576) :
    Calls Tryd.prog 32 #[.string s] w fun e w' => e = .returned (.int .i64 (textFault s)) ∧ Below w.heap.size w w' := by
  have hv := valid_c s
  cases hV : Lib.validD s.data.toList
  · have HF := Lib.hid (show textFault s = 4 by simp [textFault, hV])
    rw [hV] at hv
    have HC := Lib.hid hv
    clear hV hv
    go_enter Tryd.func32, Tryd.ntmps32
    go_wp2_with fail
    refine (HC.out _ hT hs).mono ?_
    rintro e w1 ⟨rfl, hb1⟩
    obtain ⟨⟨d1, os1⟩, rfl⟩ := beyond_of hb1
    go_wp2_with fail
    go_ret
    exact ⟨by rw [HF.out]; rfl, (by repeat (first | exact Below.refl _ _ | apply bGrow | apply bAlloc | apply Below.drew | apply bDrewN | apply bIter))⟩
  have hcv := fun wx => convRunes (w := wx) hs
  by_cases hn : 4000 < Lib.runeCount s
  · have HF := Lib.hid (show textFault s = 1 by simp [textFault, hV, hn])
    rw [hV] at hv
    have HC := Lib.hid hv
    clear hV hv
    go_enter Tryd.func32, Tryd.ntmps32
    go_wp2_with fail
    refine (HC.out _ hT hs).mono ?_
    rintro e w1 ⟨rfl, hb1⟩
    obtain ⟨⟨d1, os1⟩, rfl⟩ := beyond_of hb1
    go_wp2_with fail
    go_ret
    exact ⟨by rw [HF.out]; rfl, (by repeat (first | exact Below.refl _ _ | apply bGrow | apply bAlloc | apply Below.drew | apply bDrewN | apply bIter))⟩
  · have HF := Lib.hid (show textFault s = 0 by simp [textFault, hV, hn])
    rw [hV] at hv
    have HC := Lib.hid hv
    clear hV hv
    go_enter Tryd.func32, Tryd.ntmps32
    go_wp2_with fail
    refine (HC.out _ hT hs).mono ?_
    rintro e w1 ⟨rfl, hb1⟩
    obtain ⟨⟨d1, os1⟩, rfl⟩ := beyond_of hb1
    go_wp2_with fail
    go_ret
    exact ⟨by rw [HF.out]; rfl, (by repeat (first | exact Below.refl _ _ | apply bGrow | apply bAlloc | apply Below.drew | apply bDrewN | apply bIter))⟩
end Go.Proofs.YtbmdepbmejnlkaaDoor
