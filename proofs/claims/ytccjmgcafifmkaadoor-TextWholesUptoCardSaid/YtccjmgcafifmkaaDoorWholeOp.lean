/-
  Contract of the reference WholeOp.
-/
import Derived.Test.YtccjmgcafifmkaaDoorRows
import Derived.Test.YtccjmgcafifmkaaDoorText
import Derived.Test.YtccjmgcafifmkaaDoorLens
import Derived.Test.YtccjmgcafifmkaaDoorWhole
namespace Go.Proofs.YtccjmgcafifmkaaDoor
open Go.ChangeShapes Go.WideShapes Go.ChangeAt Go.RowKit
set_option maxRecDepth 100000
theorem loop_len (s : ByteArray) : ∀ (n i : Nat) (r : List UInt8), s.size - i = n → (ByteArray.toList.loop s i r).length = r.length + n
  | 0, i, r, h => by
    unfold ByteArray.toList.loop
    rw [if_neg (by omega)]
    simp
  | n + 1, i, r, h => by
    unfold ByteArray.toList.loop
    rw [if_pos (by omega), loop_len s n (i + 1) _ (by omega)]
    simp only [List.length_cons]
    omega
theorem bytes_len (s : ByteArray) : s.toList.length = s.size := by
  unfold ByteArray.toList
  rw [loop_len s s.size 0 [] (by omega)]
  simp
theorem runeCount_none {s : ByteArray} (h : s.toList.isEmpty = true) : Lib.runeCount s = 0 := by
  have h0 : s.size = 0 := by
    have : s.toList = [] := by simpa using h
    have h2 := congrArg List.length this
    rw [bytes_len] at h2
    exact h2
  have := Lib.runeCount_le s
  omega
theorem runeCount_some {s : ByteArray} (h : s.toList.isEmpty = false) : 0 < Lib.runeCount s := by
  have h0 : 0 < s.size := by
    have h1 : s.toList ≠ [] := by simpa using h
    have h2 := List.length_pos_iff.2 h1
    rw [bytes_len] at h2
    exact h2
  unfold Lib.runeCount
  obtain ⟨n, hn⟩ : ∃ n, s.size = n + 1 := ⟨s.size - 1, by omega⟩
  rw [hn]
  unfold Lib.runeCountFrom
  rw [if_pos h0]
  omega
theorem own_later {w w' : World} {base : Nat} {e : TypeId} {size : Nat} {v : Value} {n : Nat} {xs : List Value} (h : w.ownsRow base e size v n xs) (hb : Below w.heap.size w w') : w'.ownsRow base e size v n xs :=
  h.kept (row := none) ⟨hb.os, hb.tape, hb.output, hb.size, fun k hk _ => hb.block k hk⟩ (by cases v.ownBlock <;> simp)
theorem sl_top {W : World} {cs : List Value} {t : TypeId} {n : Nat} {A : Option Addr} (hl : cs.length = n * 3) (hA : A = some ⟨W.heap.size, 0, none⟩) : Sl (fun _ => True) (W.alloc (.cells cs.toArray t)) 3 A n cs := by
  subst hA
  exact Sl.new W cs t 3 n hl trivial
theorem below_grown {w W w1 : World} {v : Value} (h : Below w.heap.size w W) (hg : W.grownBy w1 v.ownBlock) (hv : ∀ k, v.ownBlock = some k → w.heap.size ≤ k) : Below w.heap.size w w1 := h.grown hg h.size hv
theorem WholeOp_bad1 (w : World) (f t : ByteArray) (hT : Tabs w) (hf : f.size ≤ 1048576) (ht : t.size ≤ 1048576) (x : Int) (hx : textFault f = x) (_n1 : (x == 0) = false) (n2 : (x != 0) = true) : Calls Tryd.prog 12 #[.string f, .string t] w (RetOpE w [] x) := by
  have HT := Lib.hid hT
  have HFS := Lib.hid hf
  have HTS := Lib.hid ht
  clear hT hf ht
  have HA := Lib.hid (TextFault_c f)
  rw [hx] at HA
  clear hx
  go_enter Tryd.func12, Tryd.ntmps12
  go_wp2_with fail
  refine (HA.out _ HT.out HFS.out).mono ?_
  rintro e w1 ⟨rfl, hb1⟩
  obtain ⟨⟨d1, os1⟩, rfl⟩ := beyond_of hb1
  go_wp2_with fail
  go_ret2
  exact ⟨none, 0, rfl, Sl.nil, (by repeat (first | exact Below.refl _ _ | apply bGrow | apply bAlloc | apply Below.drew | apply bDrewN | apply bIter))⟩
theorem WholeOp_bad2 (w : World) (f t : ByteArray) (hT : Tabs w) (hf : f.size ≤ 1048576) (ht : t.size ≤ 1048576) (x : Int) (h0 : textFault f = 0) (hx : textFault t = x) (_n1 : (x == 0) = false) (n2 : (x != 0) = true) : Calls Tryd.prog 12 #[.string f, .string t] w (RetOpE w [] x) := by
  have HT := Lib.hid hT
  have HFS := Lib.hid hf
  have HTS := Lib.hid ht
  clear hT hf ht
  have HA := Lib.hid (TextFault_c f)
  rw [h0] at HA
  have HB := Lib.hid (TextFault_c t)
  rw [hx] at HB
  clear h0 hx
  go_enter Tryd.func12, Tryd.ntmps12
  go_wp2_with fail
  refine (HA.out _ HT.out HFS.out).mono ?_
  rintro e w1 ⟨rfl, hb1⟩
  obtain ⟨⟨d1, os1⟩, rfl⟩ := beyond_of hb1
  go_wp2_with fail
  refine (HB.out _ (HT.out.later (by repeat (first | exact Below.refl _ _ | apply bGrow | apply bAlloc | apply Below.drew | apply bDrewN | apply bIter))) HTS.out).mono ?_
  rintro e w2 ⟨rfl, hb2⟩
  have hb3 := bThen (bGrow (Below.refl _ _) d1 os1) hb2
  clear hb1 hb2
  obtain ⟨⟨d3, os3⟩, rfl⟩ := beyond_of hb3
  go_wp2_with fail
  go_ret2
  exact ⟨none, 0, rfl, Sl.nil, (by repeat (first | exact Below.refl _ _ | apply bGrow | apply bAlloc | apply Below.drew | apply bDrewN | apply bIter))⟩
theorem WholeOp_good11 (w : World) (f t : ByteArray) (hT : Tabs w) (hf : f.size ≤ 1048576) (ht : t.size ≤ 1048576) (h0 : textFault f = 0) (hx : textFault t = 0) (t1 : t.toList.isEmpty = true) (f1 : f.toList.isEmpty = true) : Calls Tryd.prog 12 #[.string f, .string t] w (RetOpE w [] 0) := by
  have HT := Lib.hid hT
  have HFS := Lib.hid hf
  have HTS := Lib.hid ht
  clear hT hf ht
  have HA := Lib.hid (TextFault_c f)
  rw [h0] at HA
  have HB := Lib.hid (TextFault_c t)
  rw [hx] at HB
  clear h0 hx
  go_enter Tryd.func12, Tryd.ntmps12
  go_wp2_with fail
  refine (HA.out _ HT.out HFS.out).mono ?_
  rintro e w1 ⟨rfl, hb1⟩
  obtain ⟨⟨d1, os1⟩, rfl⟩ := beyond_of hb1
  go_wp2_with fail
  refine (HB.out _ (HT.out.later (by repeat (first | exact Below.refl _ _ | apply bGrow | apply bAlloc | apply Below.drew | apply bDrewN | apply bIter))) HTS.out).mono ?_
  rintro e w2 ⟨rfl, hb2⟩
  have hb3 := bThen (bGrow (Below.refl _ _) d1 os1) hb2
  clear hb1 hb2
  obtain ⟨⟨d3, os3⟩, rfl⟩ := beyond_of hb3
  go_wp2_with fail
  go_ret2
  exact ⟨none, 0, rfl, Sl.nil, (by repeat (first | exact Below.refl _ _ | apply bGrow | apply bAlloc | apply Below.drew | apply bDrewN | apply bIter))⟩
theorem WholeOp_good10 (w : World) (f t : ByteArray) (hT : Tabs w) (hf : f.size ≤ 1048576) (ht : t.size ≤ 1048576) (h0 : textFault f = 0) (hx : textFault t = 0) (t1 : t.toList.isEmpty = true) (f1 : f.toList.isEmpty = false) : Calls Tryd.prog 12 #[.string f, .string t] w (RetOpE w [⟨3, Lib.runeCount f, ⟨#[]⟩⟩] 0) := by
  have HT := Lib.hid hT
  have HFS := Lib.hid hf
  have HTS := Lib.hid ht
  clear hT hf ht
  have HA := Lib.hid (TextFault_c f)
  rw [h0] at HA
  have HB := Lib.hid (TextFault_c t)
  rw [hx] at HB
  clear h0 hx
  obtain ⟨i0, hi, hz0, hz1, hz2⟩ := info_parts infoPart
  have hcv := fun wx => convRunes (w := wx) HFS.out
  go_enter Tryd.func12, Tryd.ntmps12
  go_wp2_with fail
  refine (HA.out _ HT.out HFS.out).mono ?_
  rintro e w1 ⟨rfl, hb1⟩
  obtain ⟨⟨d1, os1⟩, rfl⟩ := beyond_of hb1
  go_wp2_with fail
  refine (HB.out _ (HT.out.later (by repeat (first | exact Below.refl _ _ | apply bGrow | apply bAlloc | apply Below.drew | apply bDrewN | apply bIter))) HTS.out).mono ?_
  rintro e w2 ⟨rfl, hb2⟩
  have hb3 := bThen (bGrow (Below.refl _ _) d1 os1) hb2
  clear hb1 hb2
  obtain ⟨⟨d3, os3⟩, rfl⟩ := beyond_of hb3
  go_wp2_with (at_builtin; refine wpList_append_sl _ rfl _ _ 26 rfl w.heap.size 58 i0 (.agg #[.int .i64 0, .int .i64 0, .string ⟨#[]⟩]) 3 32 Tryd.underlying26 hi hz0 hz1 hz2 rfl (by decide) _ _ _ rfl (World.ownsRow_nil _ _ _ _) (fun _ => True) _ _ _ [.int .i64 3, .int .i64 (Lib.runeCount f), .string ⟨#[]⟩] rfl ?cS ?c1 ?c2 ?c3 ?c4 ?_)
  case cS => exact sl_top rfl (by simp)
  case c1 => simp [Value.oneCell']
  case c2 => unfold maxLen; omega
  case c3 => omega
  case c4 => simp <;> omega
  intro A5 c5 w5 hown5 hgrow5 hat5
  have hb5 : Below w.heap.size w w5 := below_grown (v := .slice none 0 0) (by repeat (first | exact Below.refl _ _ | apply bGrow | apply bAlloc | apply Below.drew | apply bDrewN | apply bIter)) hgrow5 (by simp [Value.ownBlock])
  go_wp2_with fail
  go_ret2
  exact ⟨A5, c5, rfl, (Sl.of_own w5 hown5).keep (w' := w5) (fun _ hx => hx.2) (fun _ _ => rfl), hb5⟩
theorem WholeOp_good01 (w : World) (f t : ByteArray) (hT : Tabs w) (hf : f.size ≤ 1048576) (ht : t.size ≤ 1048576) (h0 : textFault f = 0) (hx : textFault t = 0) (t1 : t.toList.isEmpty = false) (f1 : f.toList.isEmpty = true) : Calls Tryd.prog 12 #[.string f, .string t] w (RetOpE w [⟨2, 0, t⟩] 0) := by
  have HT := Lib.hid hT
  have HFS := Lib.hid hf
  have HTS := Lib.hid ht
  clear hT hf ht
  have HA := Lib.hid (TextFault_c f)
  rw [h0] at HA
  have HB := Lib.hid (TextFault_c t)
  rw [hx] at HB
  clear h0 hx
  obtain ⟨i0, hi, hz0, hz1, hz2⟩ := info_parts infoPart
  go_enter Tryd.func12, Tryd.ntmps12
  go_wp2_with fail
  refine (HA.out _ HT.out HFS.out).mono ?_
  rintro e w1 ⟨rfl, hb1⟩
  obtain ⟨⟨d1, os1⟩, rfl⟩ := beyond_of hb1
  go_wp2_with fail
  refine (HB.out _ (HT.out.later (by repeat (first | exact Below.refl _ _ | apply bGrow | apply bAlloc | apply Below.drew | apply bDrewN | apply bIter))) HTS.out).mono ?_
  rintro e w2 ⟨rfl, hb2⟩
  have hb3 := bThen (bGrow (Below.refl _ _) d1 os1) hb2
  clear hb1 hb2
  obtain ⟨⟨d3, os3⟩, rfl⟩ := beyond_of hb3
  go_wp2_with (at_builtin; refine wpList_append_sl _ rfl _ _ 26 rfl w.heap.size 58 i0 (.agg #[.int .i64 0, .int .i64 0, .string ⟨#[]⟩]) 3 32 Tryd.underlying26 hi hz0 hz1 hz2 rfl (by decide) _ _ _ rfl (World.ownsRow_nil _ _ _ _) (fun _ => True) _ _ _ [.int .i64 2, .int .i64 0, .string t] rfl ?cS ?c1 ?c2 ?c3 ?c4 ?_)
  case cS => exact sl_top rfl (by simp)
  case c1 => simp [Value.oneCell']
  case c2 => unfold maxLen; omega
  case c3 => omega
  case c4 => simp <;> omega
  intro A4 c4 w4 hown4 hgrow4 hat4
  have hb4 : Below w.heap.size w w4 := below_grown (v := .slice none 0 0) (by repeat (first | exact Below.refl _ _ | apply bGrow | apply bAlloc | apply Below.drew | apply bDrewN | apply bIter)) hgrow4 (by simp [Value.ownBlock])
  go_wp2_with fail
  go_ret2
  exact ⟨A4, c4, rfl, (Sl.of_own w4 hown4).keep (w' := w4) (fun _ hx => hx.2) (fun _ _ => rfl), hb4⟩
theorem WholeOp_good00 (w : World) (f t : ByteArray) (hT : Tabs w) (hf : f.size ≤ 1048576) (ht : t.size ≤ 1048576) (h0 : textFault f = 0) (hx : textFault t = 0) (t1 : t.toList.isEmpty = false) (f1 : f.toList.isEmpty = false) : Calls Tryd.prog 12 #[.string f, .string t] w (RetOpE w [⟨2, 0, t⟩, ⟨3, Lib.runeCount f, ⟨#[]⟩⟩] 0) := by
  have HT := Lib.hid hT
  have HFS := Lib.hid hf
  have HTS := Lib.hid ht
  clear hT hf ht
  have HA := Lib.hid (TextFault_c f)
  rw [h0] at HA
  have HB := Lib.hid (TextFault_c t)
  rw [hx] at HB
  clear h0 hx
  obtain ⟨i0, hi, hz0, hz1, hz2⟩ := info_parts infoPart
  have hcv := fun wx => convRunes (w := wx) HFS.out
  go_enter Tryd.func12, Tryd.ntmps12
  go_wp2_with fail
  refine (HA.out _ HT.out HFS.out).mono ?_
  rintro e w1 ⟨rfl, hb1⟩
  obtain ⟨⟨d1, os1⟩, rfl⟩ := beyond_of hb1
  go_wp2_with fail
  refine (HB.out _ (HT.out.later (by repeat (first | exact Below.refl _ _ | apply bGrow | apply bAlloc | apply Below.drew | apply bDrewN | apply bIter))) HTS.out).mono ?_
  rintro e w2 ⟨rfl, hb2⟩
  have hb3 := bThen (bGrow (Below.refl _ _) d1 os1) hb2
  clear hb1 hb2
  obtain ⟨⟨d3, os3⟩, rfl⟩ := beyond_of hb3
  go_wp2_with (at_builtin; refine wpList_append_sl _ rfl _ _ 26 rfl w.heap.size 58 i0 (.agg #[.int .i64 0, .int .i64 0, .string ⟨#[]⟩]) 3 32 Tryd.underlying26 hi hz0 hz1 hz2 rfl (by decide) _ _ _ rfl (World.ownsRow_nil _ _ _ _) (fun _ => True) _ _ _ [.int .i64 2, .int .i64 0, .string t] rfl ?cS ?c1 ?c2 ?c3 ?c4 ?_)
  case cS => exact sl_top rfl (by simp)
  case c1 => simp [Value.oneCell']
  case c2 => unfold maxLen; omega
  case c3 => omega
  case c4 => simp <;> omega
  intro A4 c4 w4 hown4 hgrow4 hat4
  have hb4 : Below w.heap.size w w4 := below_grown (v := .slice none 0 0) (by repeat (first | exact Below.refl _ _ | apply bGrow | apply bAlloc | apply Below.drew | apply bDrewN | apply bIter)) hgrow4 (by simp [Value.ownBlock])
  have hs4 := hb4.size
  clear hgrow4 hat4
  go_wp2_with (at_builtin; refine wpList_append_sl _ rfl _ _ 26 rfl w.heap.size 58 i0 (.agg #[.int .i64 0, .int .i64 0, .string ⟨#[]⟩]) 3 32 Tryd.underlying26 hi hz0 hz1 hz2 rfl (by decide) _ _ _ rfl (own_later hown4 (by repeat (first | exact Below.refl _ _ | apply bGrow | apply bAlloc | apply Below.drew | apply bDrewN | apply bIter))) (fun _ => True) _ _ _ [.int .i64 3, .int .i64 (Lib.runeCount f), .string ⟨#[]⟩] rfl ?cS ?c1 ?c2 ?c3 ?c4 ?_)
  case cS => exact sl_top rfl (by simp)
  case c1 => simp [Value.oneCell']
  case c2 => unfold maxLen; omega
  case c3 => omega
  case c4 => simp <;> omega
  intro A5 c5 w5 hown5 hgrow5 hat5
  have hb5 : Below w.heap.size w w5 := below_grown (bThen hb4 (by repeat (first | exact Below.refl _ _ | apply bGrow | apply bAlloc | apply Below.drew | apply bDrewN | apply bIter))) hgrow5 (fun k hk => (hown4.lt k hk).1)
  go_wp2_with fail
  go_ret2
  exact ⟨A5, c5, rfl, (Sl.of_own w5 hown5).keep (w' := w5) (fun _ hx => hx.2) (fun _ _ => rfl), hb5⟩
theorem WholeOp_c (w : World) (f t : ByteArray) (hT : Tabs w) (hf : f.size ≤ 1048576) (ht : t.size ≤ 1048576) :
    Calls Tryd.prog 12 #[.string f, .string t] w (RetOpE w (wholeParts f t) (wholeFault f t)) := by
  by_cases h1 : textFault f = 0
  · have hw : wholeFault f t = textFault t := if_neg (by simpa using h1)
    by_cases h2 : textFault t = 0
    · have hp : wholeParts f t = (remR (insB [] t) (Lib.runeCount f)).reverse := if_neg (by rw [hw, h2]; simp)
      rw [hp, hw, h2]
      by_cases t1 : t.toList.isEmpty = true
      · rw [show insB [] t = [] from if_pos t1, remR_nil]
        by_cases f1 : f.toList.isEmpty = true
        · rw [if_neg (by rw [runeCount_none f1]; decide)]
          exact WholeOp_good11 w f t hT hf ht h1 h2 t1 f1
        · have f2 : f.toList.isEmpty = false := by simpa using f1
          rw [if_pos (by have := runeCount_some f2; omega)]
          exact WholeOp_good10 w f t hT hf ht h1 h2 t1 f2
      · have t2 : t.toList.isEmpty = false := by simpa using t1
        rw [show insB [] t = [⟨2, 0, t⟩] from if_neg t1, remR_cons, if_neg (show ¬ (2 : Int) = 3 by decide)]
        by_cases f1 : f.toList.isEmpty = true
        · rw [if_neg (by rw [runeCount_none f1]; decide)]
          exact WholeOp_good01 w f t hT hf ht h1 h2 t2 f1
        · have f2 : f.toList.isEmpty = false := by simpa using f1
          rw [if_pos (by have := runeCount_some f2; omega)]
          exact WholeOp_good00 w f t hT hf ht h1 h2 t2 f2
    · rw [show wholeParts f t = [] from if_pos (by rw [hw]; exact h2), hw]
      exact WholeOp_bad2 w f t hT hf ht _ h1 rfl (by simpa using h2) (by simpa using h2)
  · have hw : wholeFault f t = textFault f := if_pos h1
    rw [show wholeParts f t = [] from if_pos (by rw [hw]; exact h1), hw]
    exact WholeOp_bad1 w f t hT hf ht _ rfl (by simpa using h1) (by simpa using h1)
end Go.Proofs.YtccjmgcafifmkaaDoor
