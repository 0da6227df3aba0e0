/-
  Contracts of text.Lengths and its reference LengthsOf: both give 'lens'.
-/
import Derived.Test.YtbmdepbmejnlkaaDoorRows
import Derived.Test.YtbmdepbmejnlkaaDoorOps
import Derived.Test.YtbmdepbmejnlkaaDoorShelf
namespace Go.Proofs.YtbmdepbmejnlkaaDoor
open Go.ChangeShapes Go.WideShapes Go.ChangeAt Go.RowKit
set_option maxRecDepth 100000
theorem runeCount_c (s : ByteArray) (w : World) (hs : s.size ≤ 1048576) :
    Calls Tryd.prog 29 #[.string s] w fun e w' => e = .returned (.int .i64 (Lib.runeCount s)) ∧ Below w.heap.size w w' :=
  (Tryd.utf8_RuneCountInString s w (by omega)).mono fun _ _ ⟨he, pos, hw⟩ => ⟨he, hw ▸ bIter (Below.refl _ _) s pos⟩
set_option maxHeartbeats 1000000 in
theorem Lengths_c (w : World) (A : Option Addr) (c : Nat) (ps : List PartD) (hs : OpIn (· < w.heap.size) w A ps) (hm : ps.length ≤ 1048576) (ht : ∀ p ∈ ps, p.text.size ≤ 1048576) :
    Calls Tryd.prog 63 #[.slice A ps.length c] w fun e w' => e = .returned (.tuple #[.int .i64 (lens ps).1, .int .i64 (lens ps).2]) ∧ Below w.heap.size w w' := by
  have HT := Lib.hid ht
  clear ht
  go_enter Tryd.func63, Tryd.ntmps63
  go_wp2
  go_loopw [2, 3, 8] (fun f t i wr => ∃ (k : Nat), k ≤ ps.length ∧ i = .int .i64 k ∧ f = .int .i64 (lens (ps.take k)).1 ∧ t = .int .i64 (lens (ps.take k)).2 ∧ Below w.heap.size w wr)
    (fun _ _ i _ => ps.length - (intOf i).toNat)
  case atStart => exact ⟨0, Nat.zero_le _, rfl, rfl, rfl, Below.refl _ _⟩
  case round =>
    obtain ⟨k, hk, rfl, rfl, rfl, hbw⟩ := hrel
    by_cases hlt : k < ps.length
    · obtain ⟨b, o, rfl, hbs, h0, h1, h2⟩ := OpIn.at_ (ps := ps) (Sl.later hs hbw) hlt
      have HL := Lib.hid (lens_take ps k hlt)
      have htx : ps[k].text.size ≤ 1048576 := HT.out _ (List.getElem_mem hlt)
      generalize ps[k] = p at *
      generalize lens (ps.take k) = a at *
      obtain ⟨f, t⟩ := a
      obtain ⟨kd, pn, tx⟩ := p
      dsimp only at *
      by_cases hk1 : kd = 1
      · subst hk1
        go_wp2_with fail
        go_quiet (fail)
        go_wp2_with fail
        go_roundw
        case rel => exact ⟨k + 1, by omega, by go_num, by rw [HL.out]; rfl, by rw [HL.out]; rfl, (by repeat (first | exact hbw | exact Below.refl _ _ | apply bGrow | apply bAlloc | apply Below.drew | apply bDrewN | apply bIter))⟩
        case measure => simp [intOf]; omega
      have e1 : (kd == 1) = false := by simpa using hk1
      by_cases hk2 : kd = 2
      · subst hk2
        go_wp2_with fail
        refine (runeCount_c tx _ htx).mono ?_
        rintro e w1 ⟨rfl, hb1⟩
        obtain ⟨⟨d1, os1⟩, rfl⟩ := beyond_of hb1
        go_wp2_with fail
        go_roundw
        case rel => exact ⟨k + 1, by omega, by go_num, by rw [HL.out]; rfl, by rw [HL.out]; rfl, (by repeat (first | exact hbw | exact Below.refl _ _ | apply bGrow | apply bAlloc | apply Below.drew | apply bDrewN | apply bIter))⟩
        case measure => simp [intOf]; omega
      have e2 : (kd == 2) = false := by simpa using hk2
      by_cases hk3 : kd = 3
      · subst hk3
        go_wp2_with fail
        go_roundw
        case rel => exact ⟨k + 1, by omega, by go_num, by rw [HL.out]; rfl, by rw [HL.out]; rfl, (by repeat (first | exact hbw | exact Below.refl _ _ | apply bGrow | apply bAlloc | apply Below.drew | apply bDrewN | apply bIter))⟩
        case measure => simp [intOf]; omega
      have e3 : (kd == 3) = false := by simpa using hk3
      have HN := Lib.hid (show lenStep (f, t) { kind := kd, n := pn, text := tx } = (f, t) by simp [lenStep, hk1, hk2, hk3])
      go_wp2_with fail
      go_roundw
      case rel => exact ⟨k + 1, by omega, by go_num, by rw [HL.out, HN.out], by rw [HL.out, HN.out], (by repeat (first | exact hbw | exact Below.refl _ _ | apply bGrow | apply bAlloc | apply Below.drew | apply bDrewN | apply bIter))⟩
      case measure => simp [intOf]; omega
    · obtain rfl : k = ps.length := by omega
      rw [List.take_length]
      go_wp2_with fail
      go_ret2
      exact ⟨rfl, hbw⟩
theorem convRunes {w : World} {s : ByteArray} (hs : s.size ≤ 1048576) : (convert 9 112 (.string s)).run Tryd.prog w = .ok (.slice (some ⟨w.heap.size, 0, none⟩) (Lib.runeCount s) (grownCap w (Lib.runeCount s) 0 21))
    (w.drew.alloc (.cells (Conv.runesFrom s s.size 0 #[] ++ Array.replicate (grownCap w (Lib.runeCount s) 0 21 - Lib.runeCount s) (.int .i32 0)) 21)) := by
  have h := run_runes_of_string (P := Tryd.prog) w 9 112 21 s Tryd.underlying9 Tryd.underlying112 Tryd.underlying21 (by rw [runes_count]; have := Lib.runeCount_le s; omega)
  rwa [runes_count] at h
set_option maxHeartbeats 1000000 in
theorem LengthsOf_c (w : World) (A : Option Addr) (c : Nat) (ps : List PartD) (hs : OpIn (· < w.heap.size) w A ps) (hm : ps.length ≤ 1048576) (ht : ∀ p ∈ ps, p.text.size ≤ 1048576) :
    Calls Tryd.prog 35 #[.slice A ps.length c] w fun e w' => e = .returned (.tuple #[.int .i64 (lens ps).1, .int .i64 (lens ps).2]) ∧ Below w.heap.size w w' := by
  have HT := Lib.hid ht
  clear ht
  go_enter Tryd.func35, Tryd.ntmps35
  go_wp2
  go_loopw [4, 5, 6] (fun f t i wr => ∃ (k : Nat), k ≤ ps.length ∧ i = .int .i64 k ∧ f = .int .i64 (lens (ps.take k)).1 ∧ t = .int .i64 (lens (ps.take k)).2 ∧ Below w.heap.size w wr)
    (fun _ _ i _ => ps.length - (intOf i).toNat)
  case atStart => exact ⟨0, Nat.zero_le _, rfl, rfl, rfl, Below.refl _ _⟩
  case round =>
    obtain ⟨k, hk, rfl, rfl, rfl, hbw⟩ := hrel
    by_cases hlt : k < ps.length
    · obtain ⟨b, o, rfl, hbs, h0, h1, h2⟩ := OpIn.at_ (ps := ps) (Sl.later hs hbw) hlt
      have HL := Lib.hid (lens_take ps k hlt)
      have htx : ps[k].text.size ≤ 1048576 := HT.out _ (List.getElem_mem hlt)
      generalize ps[k] = p at *
      generalize lens (ps.take k) = a at *
      obtain ⟨f, t⟩ := a
      obtain ⟨kd, pn, tx⟩ := p
      dsimp only at *
      by_cases hk1 : kd = 1
      · subst hk1
        go_wp2_with fail
        go_roundw
        case rel => exact ⟨k + 1, by omega, by go_num, by rw [HL.out]; rfl, by rw [HL.out]; rfl, (by repeat (first | exact hbw | exact Below.refl _ _ | apply bGrow | apply bAlloc | apply Below.drew | apply bDrewN | apply bIter))⟩
        case measure => simp [intOf]; omega
      have e1 : (kd == 1) = false := by simpa using hk1
      by_cases hk2 : kd = 2
      · subst hk2
        have hcv := fun wx => convRunes (w := wx) htx
        go_wp2_with fail
        go_roundw
        case rel => exact ⟨k + 1, by omega, by go_num, by rw [HL.out]; rfl, by rw [HL.out]; rfl, (by repeat (first | exact hbw | exact Below.refl _ _ | apply bGrow | apply bAlloc | apply Below.drew | apply bDrewN | apply bIter))⟩
        case measure => simp [intOf]; omega
      have e2 : (kd == 2) = false := by simpa using hk2
      by_cases hk3 : kd = 3
      · subst hk3
        go_wp2_with fail
        go_roundw
        case rel => exact ⟨k + 1, by omega, by go_num, by rw [HL.out]; rfl, by rw [HL.out]; rfl, (by repeat (first | exact hbw | exact Below.refl _ _ | apply bGrow | apply bAlloc | apply Below.drew | apply bDrewN | apply bIter))⟩
        case measure => simp [intOf]; omega
      have e3 : (kd == 3) = false := by simpa using hk3
      have HN := Lib.hid (show lenStep (f, t) { kind := kd, n := pn, text := tx } = (f, t) by simp [lenStep, hk1, hk2, hk3])
      go_wp2_with fail
      go_roundw
      case rel => exact ⟨k + 1, by omega, by go_num, by rw [HL.out, HN.out], by rw [HL.out, HN.out], (by repeat (first | exact hbw | exact Below.refl _ _ | apply bGrow | apply bAlloc | apply Below.drew | apply bDrewN | apply bIter))⟩
      case measure => simp [intOf]; omega
    · obtain rfl : k = ps.length := by omega
      rw [List.take_length]
      go_wp2_with fail
      go_ret2
      exact ⟨rfl, hbw⟩
end Go.Proofs.YtbmdepbmejnlkaaDoor
