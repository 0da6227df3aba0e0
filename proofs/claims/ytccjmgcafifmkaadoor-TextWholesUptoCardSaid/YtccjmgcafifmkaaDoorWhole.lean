/-
  Contracts of text.Whole and its reference WholeOp.
-/
import Derived.Test.YtccjmgcafifmkaaDoorRows
import Derived.Test.YtccjmgcafifmkaaDoorText
import Derived.Test.YtccjmgcafifmkaaDoorLens
import Derived.Test.YtccjmgcafifmkaaDoorBuildM
namespace Go.Proofs.YtccjmgcafifmkaaDoor
open Go.ChangeShapes Go.WideShapes Go.ChangeAt Go.RowKit
set_option maxRecDepth 100000
def wholeFault (f t : ByteArray) : Int := if textFault f ≠ 0 then textFault f else textFault t
def wholeParts (f t : ByteArray) : List PartD := if wholeFault f t ≠ 0 then [] else (remR (insB [] t) (Lib.runeCount f)).reverse
/-- An operation and an error number are handed back; the operation reads as these parts. -/
def RetOpE (w : World) (ps : List PartD) (k : Int) (e : Ending) (w' : World) : Prop :=
  ∃ A c, e = .returned (.tuple #[.slice A ps.length c, .int .i64 k]) ∧ OpIn (· < w'.heap.size) w' A ps ∧ Below w.heap.size w w'
theorem Bld.fresh {w : World} : Bld (w.alloc (.cells #[.slice none 0 0] 52)) w.heap.size w.heap.size none 0 [] :=
  ⟨Nat.le_refl _, (show (w.heap.push _)[w.heap.size]? = _ from Array.getElem?_push_size), World.ownsRow_nil _ _ _ _, by simp [Value.ownBlock]⟩
set_option maxHeartbeats 1000000 in
theorem Whole_w (w : World) (f t : ByteArray) (ps : List PartD) (z : Int) (E1 : Hid (ps = wholeParts f t)) (E2 : Hid (z = wholeFault f t)) (hT : Tabs w) (hf : f.size ≤ 1048576) (ht : t.size ≤ 1048576) :
    Calls Tryd.prog 11 #[.string f, .string t] w (RetOpE w ps z) := by
  have HT := Lib.hid hT
  have HFS := Lib.hid hf
  have HTS := Lib.hid ht
  clear hT hf ht
  have hW0 : ∀ wr, Below (w.alloc (.cells #[.string f, .string t] 9)).heap.size (w.alloc (.cells #[.string f, .string t] 9)) wr → Below w.heap.size w wr := fun wr h => bThen (bAlloc (Below.refl _ _) _) h
  go_enter Tryd.func11, Tryd.ntmps11
  go_wp2_with fail
  go_loopw [4, 5, 14] (fun a b i wr => ∃ (k : Nat), k ≤ 2 ∧ i = .int .i64 k ∧ a = .slice none 0 0 ∧ b = .int .i64 0 ∧ Hid ((0 < k → textFault f = 0) ∧ (1 < k → textFault t = 0)) ∧ Below (w.alloc (.cells #[.string f, .string t] 9)).heap.size (w.alloc (.cells #[.string f, .string t] 9)) wr)
    (fun _ _ i _ => 2 - (intOf i).toNat)
  case atStart => exact ⟨0, by omega, rfl, rfl, rfl, ⟨by omega, by omega⟩, Below.refl _ _⟩
  case round =>
    obtain ⟨k, hk, rfl, rfl, rfl, hok, hbw⟩ := hrel
    have q0 : wr.cell? ⟨w.heap.size, 0, none⟩ = some (.string f) := (hbw.cell (p := ⟨w.heap.size, 0, none⟩) (by simp)).trans (by simp [go_sem])
    have q1 : wr.cell? ⟨w.heap.size, 1, none⟩ = some (.string t) := (hbw.cell (p := ⟨w.heap.size, 1, none⟩) (by simp)).trans (by simp [go_sem])
    have hwr := hW0 wr hbw
    have HW := Lib.hid hbw
    clear hbw
    rcases (show k = 0 ∨ k = 1 ∨ k = 2 by omega) with rfl | rfl | rfl
    · have HC := Lib.hid (fun W h => CheckText_c f W h HFS.out)
      by_cases hx : textFault f = 0
      · rw [hx] at HC
        have hr : Hid ((0 < 1 → textFault f = 0) ∧ (1 < 1 → textFault t = 0)) := ⟨fun _ => hx, by omega⟩
        clear hx hok
        go_wp2_with fail
        refine (HC.out _ (HT.out.later hwr)).mono ?_
        rintro e w1 ⟨rfl, hb1⟩
        obtain ⟨⟨d1, os1⟩, rfl⟩ := beyond_of hb1
        go_wp2_with fail
        go_roundw
        case rel => exact ⟨1, by omega, by go_num, rfl, rfl, hr, bThen HW.out (by repeat (first | exact Below.refl _ _ | apply bGrow | apply bAlloc | apply Below.drew | apply bDrewN | apply bIter))⟩
        case measure => simp [intOf]
      · have hff := Lib.hid (show wholeFault f t = textFault f from if_pos hx)
        have hpp := Lib.hid (E1.out.trans (show wholeParts f t = [] from if_pos (by rw [hff.out]; exact hx)))
        have hzz := Lib.hid (E2.out.trans hff.out)
        have hne : (textFault f != 0) = true := by simpa using hx
        clear hff E1 E2
        generalize textFault f = x at *
        clear hx hok
        go_wp2_with fail
        refine (HC.out _ (HT.out.later hwr)).mono ?_
        rintro e w1 ⟨rfl, hb1⟩
        obtain ⟨⟨d1, os1⟩, rfl⟩ := beyond_of hb1
        go_wp2_with fail
        go_ret2
        rw [hpp.out, hzz.out]
        exact ⟨none, 0, rfl, Sl.nil, bThen hwr (by repeat (first | exact Below.refl _ _ | apply bGrow | apply bAlloc | apply Below.drew | apply bDrewN | apply bIter))⟩
    · have HC := Lib.hid (fun W h => CheckText_c t W h HTS.out)
      have hf0 := hok.out.1 (by omega)
      by_cases hx : textFault t = 0
      · rw [hx] at HC
        have hr : Hid ((0 < 2 → textFault f = 0) ∧ (1 < 2 → textFault t = 0)) := ⟨fun _ => hf0, fun _ => hx⟩
        clear hx hok hf0
        go_wp2_with fail
        refine (HC.out _ (HT.out.later hwr)).mono ?_
        rintro e w1 ⟨rfl, hb1⟩
        obtain ⟨⟨d1, os1⟩, rfl⟩ := beyond_of hb1
        go_wp2_with fail
        go_roundw
        case rel => exact ⟨2, by omega, by go_num, rfl, rfl, hr, bThen HW.out (by repeat (first | exact Below.refl _ _ | apply bGrow | apply bAlloc | apply Below.drew | apply bDrewN | apply bIter))⟩
        case measure => simp [intOf]
      · have hff := Lib.hid (show wholeFault f t = textFault t from if_neg (by simpa using hf0))
        have hpp := Lib.hid (E1.out.trans (show wholeParts f t = [] from if_pos (by rw [hff.out]; exact hx)))
        have hzz := Lib.hid (E2.out.trans hff.out)
        have hne : (textFault t != 0) = true := by simpa using hx
        clear hff E1 E2
        generalize textFault t = x at *
        clear hx hok hf0
        go_wp2_with fail
        refine (HC.out _ (HT.out.later hwr)).mono ?_
        rintro e w1 ⟨rfl, hb1⟩
        obtain ⟨⟨d1, os1⟩, rfl⟩ := beyond_of hb1
        go_wp2_with fail
        go_ret2
        rw [hpp.out, hzz.out]
        exact ⟨none, 0, rfl, Sl.nil, bThen hwr (by repeat (first | exact Below.refl _ _ | apply bGrow | apply bAlloc | apply Below.drew | apply bDrewN | apply bIter))⟩
    · have hff := Lib.hid (show wholeFault f t = 0 from (if_neg (by simpa using hok.out.1 (by omega))).trans (hok.out.2 (by omega)))
      have hpp := Lib.hid (E1.out.trans (show wholeParts f t = (remR (insB [] t) (Lib.runeCount f)).reverse from if_neg (by rw [hff.out]; simp)))
      have hzz := Lib.hid (E2.out.trans hff.out)
      clear hff hok E1 E2
      go_wp2_with fail
      refine (insert_c _ wr.heap.size wr.heap.size none 0 t [] Bld.fresh (by have := HTS.out; omega) (by simp) (by simp)).mono ?_
      rintro e w2 ⟨rfl, A2, c2, hb2, ht2, hr2⟩
      have HB2 := Lib.hid hb2
      have hlt2 := hb2.lt
      have hb12 : Below wr.heap.size wr w2 := ((bAlloc (Below.refl _ _) _).trans (ht2.below (Nat.le_refl _) (by simp [Value.ownBlock]) (by simp)))
      clear hb2 ht2 hr2
      go_wp2_with fail
      refine (runeCount_c f w2 HFS.out).mono ?_
      rintro e w3 ⟨rfl, hb3⟩
      have HB3 := Lib.hid (HB2.out.later hb3)
      have hb13 := hb12.trans (hb3.mono (Nat.le_of_lt hlt2))
      clear hb3 hb12 HB2 hlt2
      go_wp2_with fail
      refine (remove_c w3 wr.heap.size wr.heap.size A2 c2 (Lib.runeCount f) (insB [] t) HB3.out (by unfold insB; split <;> simp [insR_nil])).mono ?_
      rintro e w4 ⟨rfl, A4, c4, hb4, ht4, _⟩
      have hlt3 := HB3.out.lt
      have hb14 : Below wr.heap.size wr w4 := hb13.trans (ht4.below (Nat.le_refl _) (fun x hx => (HB3.out.row.lt x hx).1) (Nat.le_of_lt hlt3))
      have hc4 := hb4.cell
      have hlt4 := hb4.lt
      have hop : OpIn (· < w4.heap.size) w4 A4 (remR (insB [] t) (Lib.runeCount f)).reverse := by
        have h := Sl.of_own w4 hb4.row
        have h2 := h.keep (S' := (· < w4.heap.size)) (w' := w4) (fun _ hx => hx.2) (fun _ _ => rfl)
        unfold OpIn
        rw [List.length_reverse]
        exact h2
      have hlen : (remR (insB [] t) (Lib.runeCount f)).length ≤ 100 := by
        have h1 := remR_length (insB [] t) (Lib.runeCount f)
        have h2 : (insB [] t).length ≤ 1 := by unfold insB; split <;> simp [insR_nil]
        omega
      have HP := Lib.hid (copied_c w4 A4 c4 _ hop (by rw [List.length_reverse]; omega))
      clear hb13 ht4 hb4 HB3 hop
      rw [List.length_reverse] at HP
      generalize remR (insB [] t) (Lib.runeCount f) = rs at *
      go_wp2_with fail
      refine HP.out.mono ?_
      rintro e w5 ⟨A5, c5, rfl, hown, hb5⟩
      go_wp2_with fail
      go_ret2
      rw [hpp.out, hzz.out]
      refine ⟨A5, c5, by rw [List.length_reverse]; rfl, ?_, bThen hwr (hb14.trans (hb5.mono (Nat.le_of_lt hlt4)))⟩
      exact (Sl.of_own w5 hown).keep (w' := w5) (fun _ hx => hx.2) (fun _ _ => rfl)
theorem Whole_c (w : World) (f t : ByteArray) (hT : Tabs w) (hf : f.size ≤ 1048576) (ht : t.size ≤ 1048576) :
    Calls Tryd.prog 11 #[.string f, .string t] w (RetOpE w (wholeParts f t) (wholeFault f t)) := Whole_w w f t _ _ (Lib.hid rfl) (Lib.hid rfl) hT hf ht
end Go.Proofs.YtccjmgcafifmkaaDoor
