/-
  Contracts of wire.number, wire.CheckRecord and its reference RecordFault.
-/
import Derived.Test.YtieofljkgmkaiaaDoorRows
import Derived.Test.YtieofljkgmkaiaaDoorOps
import Derived.Test.YtieofljkgmkaiaaDoorText
import Derived.Test.YtieofljkgmkaiaaDoorCheck
import Derived.Test.YtieofljkgmkaiaaDoorIn
namespace Go.Proofs.YtieofljkgmkaiaaDoor
open Go.ChangeShapes Go.WideShapes Go.ChangeAt Go.RowKit
set_option maxRecDepth 100000
theorem number_yes (n : Int) (w : World) (h1 : 0 ≤ n) (h2 : n ≤ 1048576) : Calls Tryd.prog 118 #[.int .i64 n] w fun e w' => e = .returned (.bool true) ∧ w = w' := by
  have e1 : decide (0 ≤ n) = true := by simpa using h1
  have e2 : decide (n ≤ 1048576) = true := by simpa using h2
  go_enter Tryd.func118, Tryd.ntmps118
  go_wp2
  go_ret
  exact ⟨rfl, rfl⟩
theorem number_no (n : Int) (w : World) (h : n < 0 ∨ 1048576 < n) : Calls Tryd.prog 118 #[.int .i64 n] w fun e w' => e = .returned (.bool false) ∧ w = w' := by
  rcases Int.lt_or_le n 0 with h1 | h1
  · have e1 : decide (0 ≤ n) = false := by simpa using h1
    go_enter Tryd.func118, Tryd.ntmps118
    go_wp2
    go_ret
    exact ⟨rfl, rfl⟩
  · have h2 : 1048576 < n := by omega
    have e1 : decide (0 ≤ n) = true := by simpa using h1
    have e2 : decide (n ≤ 1048576) = false := by simpa using h2
    go_enter Tryd.func118, Tryd.ntmps118
    go_wp2
    go_ret
    exact ⟨rfl, rfl⟩
/-- What a record is refused for. -/
def recordFault (ep : Int) (ps : List PartD) : Int := if ep < 0 ∨ 1048576 < ep then 2 else if 0 < ep ∧ 0 < ps.length then 4 else opFault ps
abbrev recordV (ep : Int) (A : Option Addr) (n c : Nat) : Value := .agg #[.int .i64 ep, .slice A n c]
theorem CheckRecord_c (w : World) (ep : Int) (A : Option Addr) (c : Nat) (ps : List PartD) (hT : Tabs w) (hs : OpIn (· < w.heap.size) w A ps) (hm : ps.length ≤ 1048576) (ht : ∀ p ∈ ps, p.text.size ≤ 1048576) :
    Calls Tryd.prog 125 #[recordV ep A ps.length c] w fun e w' => e = .returned (.int .i64 (recordFault ep ps)) ∧ Below w.heap.size w w' := by
  have HTX := Lib.hid ht
  have HT := Lib.hid hT
  clear ht hT
  by_cases hb : ep < 0 ∨ 1048576 < ep
  · have HF := Lib.hid (show recordFault ep ps = 2 from if_pos hb)
    have H := Lib.hid hb
    clear hb
    go_enter Tryd.func125, Tryd.ntmps125
    go_wp2_with fail
    refine (number_no _ _ H.out).mono ?_
    rintro e w1 ⟨rfl, rfl⟩
    go_wp2_with fail
    go_ret
    exact ⟨by rw [HF.out]; rfl, (by repeat (first | exact Below.refl _ _ | apply bGrow | apply bAlloc | apply Below.drew | apply bDrewN | apply bIter))⟩
  have hb1 : 0 ≤ ep := by omega
  have hb2 : ep ≤ 1048576 := by omega
  by_cases hf : 0 < ep ∧ 0 < ps.length
  · have HF := Lib.hid (show recordFault ep ps = 4 by unfold recordFault; rw [if_neg hb, if_pos hf])
    obtain ⟨hf1, hf2⟩ := hf
    have e1 : decide (0 < ep) = true := by simpa using hf1
    have e2 : decide ((0 : Int) < (ps.length : Int)) = true := by simp; omega
    have e3 : (ep != 0) = true := by simp; omega
    clear hb
    go_enter Tryd.func125, Tryd.ntmps125
    go_wp2_with fail
    refine (number_yes _ _ (by omega) (by omega)).mono ?_
    rintro e w1 ⟨rfl, rfl⟩
    go_wp2_with fail
    go_ret
    exact ⟨by rw [HF.out]; rfl, (by repeat (first | exact Below.refl _ _ | apply bGrow | apply bAlloc | apply Below.drew | apply bDrewN | apply bIter))⟩
  have HF := Lib.hid (show recordFault ep ps = opFault ps by unfold recordFault; rw [if_neg hb, if_neg hf])
  clear hb
  by_cases h0 : ep = 0
  · subst h0
    clear hf
    go_enter Tryd.func125, Tryd.ntmps125
    go_wp2_with fail
    refine (number_yes _ _ (by omega) (by omega)).mono ?_
    rintro e w1 ⟨rfl, rfl⟩
    go_wp2_with fail
    refine (Check_c _ A c ps (HT.out.later (by repeat (first | exact Below.refl _ _ | apply bGrow | apply bAlloc | apply Below.drew | apply bDrewN | apply bIter))) (Sl.later hs (by repeat (first | exact Below.refl _ _ | apply bGrow | apply bAlloc | apply Below.drew | apply bDrewN | apply bIter))) hm HTX.out).mono ?_
    rintro e w1 ⟨rfl, hb1⟩
    obtain ⟨⟨d1, os1⟩, rfl⟩ := beyond_of hb1
    go_wp2_with fail
    go_ret
    exact ⟨by rw [HF.out]; rfl, (by repeat (first | exact Below.refl _ _ | apply bGrow | apply bAlloc | apply Below.drew | apply bDrewN | apply bIter))⟩
  · have hp : ps.length = 0 := by omega
    have e1 : decide (0 < ep) = true := by simp; omega
    have e3 : (ep != 0) = true := by simpa using h0
    have e2 : decide (0 < ps.length) = false := by simp [hp]
    clear hf hp
    go_enter Tryd.func125, Tryd.ntmps125
    go_wp2_with fail
    refine (number_yes _ _ (by omega) (by omega)).mono ?_
    rintro e w1 ⟨rfl, rfl⟩
    go_wp2_with fail
    refine (Check_c _ A c ps (HT.out.later (by repeat (first | exact Below.refl _ _ | apply bGrow | apply bAlloc | apply Below.drew | apply bDrewN | apply bIter))) (Sl.later hs (by repeat (first | exact Below.refl _ _ | apply bGrow | apply bAlloc | apply Below.drew | apply bDrewN | apply bIter))) hm HTX.out).mono ?_
    rintro e w1 ⟨rfl, hb1⟩
    obtain ⟨⟨d1, os1⟩, rfl⟩ := beyond_of hb1
    go_wp2_with fail
    go_ret
    exact ⟨by rw [HF.out]; rfl, (by repeat (first | exact Below.refl _ _ | apply bGrow | apply bAlloc | apply Below.drew | apply bDrewN | apply bIter))⟩
theorem RecordFault_c (w : World) (ep : Int) (A : Option Addr) (c : Nat) (ps : List PartD) (hT : Tabs w) (hs : OpIn (· < w.heap.size) w A ps) (hm : ps.length ≤ 1048576) (ht : ∀ p ∈ ps, p.text.size ≤ 1048576) :
    Calls Tryd.prog 126 #[recordV ep A ps.length c] w fun e w' => e = .returned (.int .i64 (recordFault ep ps)) ∧ Below w.heap.size w w' := by
  have HTX := Lib.hid ht
  have HT := Lib.hid hT
  clear ht hT
  by_cases hb : ep < 0 ∨ 1048576 < ep
  · have HF := Lib.hid (show recordFault ep ps = 2 from if_pos hb)
    have H := Lib.hid hb
    clear hb
    go_enter Tryd.func126, Tryd.ntmps126
    go_wp2_with fail
    refine (In_no _ _ _ _ H.out).mono ?_
    rintro e w1 ⟨rfl, rfl⟩
    go_wp2_with fail
    go_ret
    exact ⟨by rw [HF.out]; rfl, (by repeat (first | exact Below.refl _ _ | apply bGrow | apply bAlloc | apply Below.drew | apply bDrewN | apply bIter))⟩
  have hb1 : 0 ≤ ep := by omega
  have hb2 : ep ≤ 1048576 := by omega
  by_cases hf : 0 < ep ∧ 0 < ps.length
  · have HF := Lib.hid (show recordFault ep ps = 4 by unfold recordFault; rw [if_neg hb, if_pos hf])
    obtain ⟨hf1, hf2⟩ := hf
    have e1 : decide (0 < ep) = true := by simpa using hf1
    have e2 : decide ((0 : Int) < (ps.length : Int)) = true := by simp; omega
    have e3 : (ep != 0) = true := by simp; omega
    clear hb
    go_enter Tryd.func126, Tryd.ntmps126
    go_wp2_with fail
    refine (In_yes _ _ _ _ (by omega) (by omega)).mono ?_
    rintro e w1 ⟨rfl, rfl⟩
    go_wp2_with fail
    go_ret
    exact ⟨by rw [HF.out]; rfl, (by repeat (first | exact Below.refl _ _ | apply bGrow | apply bAlloc | apply Below.drew | apply bDrewN | apply bIter))⟩
  have HF := Lib.hid (show recordFault ep ps = opFault ps by unfold recordFault; rw [if_neg hb, if_neg hf])
  clear hb
  by_cases h0 : ep = 0
  · subst h0
    clear hf
    go_enter Tryd.func126, Tryd.ntmps126
    go_wp2_with fail
    refine (In_yes _ _ _ _ (by omega) (by omega)).mono ?_
    rintro e w1 ⟨rfl, rfl⟩
    go_wp2_with fail
    refine (OpFault_c _ A c ps (HT.out.later (by repeat (first | exact Below.refl _ _ | apply bGrow | apply bAlloc | apply Below.drew | apply bDrewN | apply bIter))) (Sl.later hs (by repeat (first | exact Below.refl _ _ | apply bGrow | apply bAlloc | apply Below.drew | apply bDrewN | apply bIter))) hm HTX.out).mono ?_
    rintro e w1 ⟨rfl, hb1⟩
    obtain ⟨⟨d1, os1⟩, rfl⟩ := beyond_of hb1
    go_wp2_with fail
    go_ret
    exact ⟨by rw [HF.out]; rfl, (by repeat (first | exact Below.refl _ _ | apply bGrow | apply bAlloc | apply Below.drew | apply bDrewN | apply bIter))⟩
  · have hp : ps.length = 0 := by omega
    have e1 : decide (0 < ep) = true := by simp; omega
    have e3 : (ep != 0) = true := by simpa using h0
    have e2 : decide (0 < ps.length) = false := by simp [hp]
    clear hf hp
    go_enter Tryd.func126, Tryd.ntmps126
    go_wp2_with fail
    refine (In_yes _ _ _ _ (by omega) (by omega)).mono ?_
    rintro e w1 ⟨rfl, rfl⟩
    go_wp2_with fail
    refine (OpFault_c _ A c ps (HT.out.later (by repeat (first | exact Below.refl _ _ | apply bGrow | apply bAlloc | apply Below.drew | apply bDrewN | apply bIter))) (Sl.later hs (by repeat (first | exact Below.refl _ _ | apply bGrow | apply bAlloc | apply Below.drew | apply bDrewN | apply bIter))) hm HTX.out).mono ?_
    rintro e w1 ⟨rfl, hb1⟩
    obtain ⟨⟨d1, os1⟩, rfl⟩ := beyond_of hb1
    go_wp2_with fail
    go_ret
    exact ⟨by rw [HF.out]; rfl, (by repeat (first | exact Below.refl _ _ | apply bGrow | apply bAlloc | apply Below.drew | apply bDrewN | apply bIter))⟩
end Go.Proofs.YtieofljkgmkaiaaDoor
