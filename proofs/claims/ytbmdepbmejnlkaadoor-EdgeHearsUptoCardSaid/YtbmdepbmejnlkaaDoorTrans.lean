/-
  Contracts of text.both and text.fits.
-/
import Derived.Test.YtbmdepbmejnlkaaDoorRows
import Derived.Test.YtbmdepbmejnlkaaDoorCheck
import Derived.Test.YtbmdepbmejnlkaaDoorWalkV
import Derived.Test.YtbmdepbmejnlkaaDoorBld
import Derived.Test.YtbmdepbmejnlkaaDoorTransP
namespace Go.Proofs.YtbmdepbmejnlkaaDoor
open Go.ChangeShapes Go.WideShapes Go.ChangeAt Go.RowKit
set_option maxRecDepth 100000
/-- What both answers. -/
def bothErr (x y : List PartD) : Int := if opFault x ≠ 0 then opFault x else if opFault y ≠ 0 then opFault y else if (lens x).1 ≠ (lens y).1 then 10 else 0
theorem both_c (w : World) (A B : Option Addr) (c d : Nat) (x y : List PartD) (hT : Tabs w) (hx : OpIn (· < w.heap.size) w A x) (hy : OpIn (· < w.heap.size) w B y) (hxl : x.length ≤ 1048576) (hyl : y.length ≤ 1048576) (hxt : ∀ p ∈ x, p.text.size ≤ 1048576) (hyt : ∀ p ∈ y, p.text.size ≤ 1048576) :
    Calls Tryd.prog 74 #[.slice A x.length c, .slice B y.length d] w fun e w' => e = .returned (.int .i64 (bothErr x y)) ∧ Below w.heap.size w w' := by
  have HX := Lib.hid (Check_c w A c x hT hx hxl hxt)
  have HY := Lib.hid (fun W hT hs => Check_c W B d y hT hs hyl hyt)
  have HLX := Lib.hid (fun W hs => Lengths_c W A c x hs hxl hxt)
  have HLY := Lib.hid (fun W hs => Lengths_c W B d y hs hyl hyt)
  have HT := Lib.hid hT
  clear hT hxl hyl hxt hyt
  unfold bothErr
  by_cases h1 : opFault x = 0
  · rw [if_neg (by simpa using h1)]
    rw [h1] at HX
    by_cases h2 : opFault y = 0
    · rw [if_neg (by simpa using h2)]
      rw [h2] at HY
      by_cases h3 : (lens x).1 = (lens y).1
      · rw [if_neg (by simpa using h3)]
        have e3 : ((lens x).1 != (lens y).1) = false := by simpa using h3
        generalize lens x = L at *
        generalize lens y = M at *
        obtain ⟨L1, L2⟩ := L
        obtain ⟨M1, M2⟩ := M
        dsimp only at *
        clear h1 h2 h3
        go_enter Tryd.func74, Tryd.ntmps74
        go_wp2_with fail
        refine HX.out.mono ?_
        rintro e w1 ⟨rfl, hb1⟩
        go_wp2_with fail
        refine (HY.out _ (HT.out.later hb1) (Sl.later hy hb1)).mono ?_
        rintro e w2 ⟨rfl, hb2⟩
        have HB2 := Lib.hid (bThen hb1 hb2)
        clear hb1 hb2
        go_wp2_with fail
        refine (HLX.out _ (Sl.later hx HB2.out)).mono ?_
        rintro e w3 ⟨rfl, hb3⟩
        have HB3 := Lib.hid (bThen HB2.out hb3)
        clear hb3
        go_wp2_with fail
        refine (HLY.out _ (Sl.later hy HB3.out)).mono ?_
        rintro e w4 ⟨rfl, hb4⟩
        go_wp2_with fail
        go_ret
        exact ⟨rfl, bThen HB3.out hb4⟩
      · rw [if_pos h3]
        have e3 : ((lens x).1 != (lens y).1) = true := by simpa using h3
        generalize lens x = L at *
        generalize lens y = M at *
        obtain ⟨L1, L2⟩ := L
        obtain ⟨M1, M2⟩ := M
        dsimp only at *
        clear h1 h2 h3
        go_enter Tryd.func74, Tryd.ntmps74
        go_wp2_with fail
        refine HX.out.mono ?_
        rintro e w1 ⟨rfl, hb1⟩
        go_wp2_with fail
        refine (HY.out _ (HT.out.later hb1) (Sl.later hy hb1)).mono ?_
        rintro e w2 ⟨rfl, hb2⟩
        have HB2 := Lib.hid (bThen hb1 hb2)
        clear hb1 hb2
        go_wp2_with fail
        refine (HLX.out _ (Sl.later hx HB2.out)).mono ?_
        rintro e w3 ⟨rfl, hb3⟩
        have HB3 := Lib.hid (bThen HB2.out hb3)
        clear hb3
        go_wp2_with fail
        refine (HLY.out _ (Sl.later hy HB3.out)).mono ?_
        rintro e w4 ⟨rfl, hb4⟩
        go_wp2_with fail
        go_ret
        exact ⟨rfl, bThen HB3.out hb4⟩
    · rw [if_pos h2]
      have e2 : (opFault y != 0) = true := by simpa using h2
      generalize opFault y = z at *
      clear h1 h2 HLX HLY
      go_enter Tryd.func74, Tryd.ntmps74
      go_wp2_with fail
      refine HX.out.mono ?_
      rintro e w1 ⟨rfl, hb1⟩
      go_wp2_with fail
      refine (HY.out _ (HT.out.later hb1) (Sl.later hy hb1)).mono ?_
      rintro e w2 ⟨rfl, hb2⟩
      go_wp2_with fail
      go_ret
      exact ⟨rfl, bThen hb1 hb2⟩
  · rw [if_pos h1]
    have e1 : (opFault x != 0) = true := by simpa using h1
    generalize opFault x = z at *
    clear h1 HLX HLY HY
    go_enter Tryd.func74, Tryd.ntmps74
    go_wp2_with fail
    refine HX.out.mono ?_
    rintro e w1 ⟨rfl, hb1⟩
    go_wp2_with fail
    go_ret
    exact ⟨rfl, hb1⟩
/-- What fits answers. -/
def fitsErr (x y : List PartD) : Int := if opFault x ≠ 0 then opFault x else opFault y
/-- What fits hands back. -/
def fitsV (n : Int) (u v : Value) : Value := if n = 0 then .tuple #[u, v, .int .i64 0] else .tuple #[.slice none 0 0, .slice none 0 0, .int .i64 n]
theorem fitsV_no {n : Int} (h : ¬ n = 0) (u v : Value) : fitsV n u v = .tuple #[.slice none 0 0, .slice none 0 0, .int .i64 n] := if_neg h
theorem fitsV_ok (u v : Value) : fitsV 0 u v = .tuple #[u, v, .int .i64 0] := rfl
/-- A call that hands back two operations, and an error. -/
def RetTwo (w : World) (x y : List PartD) (er : Int) (e : Ending) (w' : World) : Prop :=
  ∃ A c B d, e = .returned (.tuple #[.slice A x.length c, .slice B y.length d, .int .i64 er]) ∧ OpIn (fun b => w.heap.size ≤ b ∧ b < w'.heap.size) w' A x ∧ OpIn (fun b => w.heap.size ≤ b ∧ b < w'.heap.size) w' B y ∧ Below w.heap.size w w'
theorem fits_c (w : World) (A B : Option Addr) (c d : Nat) (x y : List PartD) (hT : Tabs w) (hx : OpIn (· < w.heap.size) w A x) (hy : OpIn (· < w.heap.size) w B y) (hxl : x.length ≤ 1048576) (hyl : y.length ≤ 1048576) (hxt : ∀ p ∈ x, p.text.size ≤ 1048576) (hyt : ∀ p ∈ y, p.text.size ≤ 1048576) :
    Calls Tryd.prog 76 #[.slice A x.length c, .slice B y.length d] w fun e w' => e = .returned (fitsV (fitsErr x y) (.slice A x.length c) (.slice B y.length d)) ∧ Below w.heap.size w w' := by
  have HX := Lib.hid (fun W hT hs => Check_c W A c x hT hs hxl hxt)
  have HY := Lib.hid (fun W hT hs => Check_c W B d y hT hs hyl hyt)
  have HT := Lib.hid hT
  have HSX := Lib.hid hx
  have HSY := Lib.hid hy
  clear hT hxl hyl hxt hyt hx hy
  have hW0 : ∀ wr, Below (w.alloc (.cells #[.slice A x.length c, .slice B y.length d] 43)).heap.size (w.alloc (.cells #[.slice A x.length c, .slice B y.length d] 43)) wr → Below w.heap.size w wr := fun wr h => bThen (bAlloc (Below.refl _ _) _) h
  go_enter Tryd.func76, Tryd.ntmps76
  go_wp2_with fail
  go_loopw [4, 5, 6, 14] (fun r1 r2 r3 i wr => ∃ (k : Nat), k ≤ 2 ∧ i = .int .i64 k ∧ r1 = .slice none 0 0 ∧ r2 = .slice none 0 0 ∧ r3 = .int .i64 0 ∧ Hid ((0 < k → opFault x = 0) ∧ (1 < k → opFault y = 0)) ∧ Below (w.alloc (.cells #[.slice A x.length c, .slice B y.length d] 43)).heap.size (w.alloc (.cells #[.slice A x.length c, .slice B y.length d] 43)) wr)
    (fun _ _ _ i _ => 2 - (intOf i).toNat)
  case atStart => exact ⟨0, by omega, rfl, rfl, rfl, rfl, ⟨by omega, by omega⟩, Below.refl _ _⟩
  case round =>
    obtain ⟨k, hk, rfl, rfl, rfl, rfl, hok, hbw⟩ := hrel
    have q0 : wr.cell? ⟨w.heap.size, 0, none⟩ = some (.slice A x.length c) := (hbw.cell (p := ⟨w.heap.size, 0, none⟩) (by simp)).trans (by simp [go_sem])
    have q1 : wr.cell? ⟨w.heap.size, 1, none⟩ = some (.slice B y.length d) := (hbw.cell (p := ⟨w.heap.size, 1, none⟩) (by simp)).trans (by simp [go_sem])
    have hwr := hW0 wr hbw
    have HW := Lib.hid hbw
    clear hbw
    rcases (show k = 0 ∨ k = 1 ∨ k = 2 by omega) with rfl | rfl | rfl
    · have HC := Lib.hid HX.out
      by_cases hx : opFault x = 0
      · rw [hx] at HC
        have hr : Hid ((0 < 1 → opFault x = 0) ∧ (1 < 1 → opFault y = 0)) := ⟨fun _ => hx, by omega⟩
        clear hx hok
        go_wp2_with fail
        refine (HC.out _ (HT.out.later hwr) (Sl.later HSX.out hwr)).mono ?_
        rintro e w1 ⟨rfl, hb1⟩
        obtain ⟨⟨d1, os1⟩, rfl⟩ := beyond_of hb1
        go_wp2_with fail
        go_roundw
        case rel => exact ⟨1, by omega, by go_num, rfl, rfl, rfl, hr, bThen HW.out (by repeat (first | exact Below.refl _ _ | apply bGrow | apply bAlloc | apply Below.drew | apply bDrewN | apply bIter))⟩
        case measure => simp [intOf]
      · have hz := Lib.hid (show fitsErr x y = opFault x from if_pos hx)
        have hnz := Lib.hid (show ¬ opFault x = 0 from hx)
        have hne : (opFault x != 0) = true := by simpa using hx
        clear hok
        generalize opFault x = z at *
        clear hx
        go_wp2_with fail
        refine (HC.out _ (HT.out.later hwr) (Sl.later HSX.out hwr)).mono ?_
        rintro e w1 ⟨rfl, hb1⟩
        obtain ⟨⟨d1, os1⟩, rfl⟩ := beyond_of hb1
        go_wp2_with fail
        go_ret3
        rw [hz.out, fitsV_no hnz.out]
        exact ⟨rfl, bThen hwr (by repeat (first | exact Below.refl _ _ | apply bGrow | apply bAlloc | apply Below.drew | apply bDrewN | apply bIter))⟩
    · have HC := Lib.hid HY.out
      have hf0 := hok.out.1 (by omega)
      by_cases hx : opFault y = 0
      · rw [hx] at HC
        have hr : Hid ((0 < 2 → opFault x = 0) ∧ (1 < 2 → opFault y = 0)) := ⟨fun _ => hf0, fun _ => hx⟩
        clear hx hok hf0
        go_wp2_with fail
        refine (HC.out _ (HT.out.later hwr) (Sl.later HSY.out hwr)).mono ?_
        rintro e w1 ⟨rfl, hb1⟩
        obtain ⟨⟨d1, os1⟩, rfl⟩ := beyond_of hb1
        go_wp2_with fail
        go_roundw
        case rel => exact ⟨2, by omega, by go_num, rfl, rfl, rfl, hr, bThen HW.out (by repeat (first | exact Below.refl _ _ | apply bGrow | apply bAlloc | apply Below.drew | apply bDrewN | apply bIter))⟩
        case measure => simp [intOf]
      · have hz := Lib.hid (show fitsErr x y = opFault y from if_neg (by simpa using hf0))
        have hnz := Lib.hid (show ¬ opFault y = 0 from hx)
        have hne : (opFault y != 0) = true := by simpa using hx
        clear hok
        generalize opFault y = z at *
        clear hx hf0
        go_wp2_with fail
        refine (HC.out _ (HT.out.later hwr) (Sl.later HSY.out hwr)).mono ?_
        rintro e w1 ⟨rfl, hb1⟩
        obtain ⟨⟨d1, os1⟩, rfl⟩ := beyond_of hb1
        go_wp2_with fail
        go_ret3
        rw [hz.out, fitsV_no hnz.out]
        exact ⟨rfl, bThen hwr (by repeat (first | exact Below.refl _ _ | apply bGrow | apply bAlloc | apply Below.drew | apply bDrewN | apply bIter))⟩
    · have hz := Lib.hid (show fitsErr x y = 0 from (if_neg (by simpa using hok.out.1 (by omega))).trans (hok.out.2 (by omega)))
      clear hok
      go_wp2_with fail
      go_ret3
      rw [hz.out, fitsV_ok]
      exact ⟨rfl, hwr⟩
end Go.Proofs.YtbmdepbmejnlkaaDoor
