/-
  Contract of the reference's Moved.
-/
import Derived.Test.YtiooimnlkcpnnaaDoorRows
import Derived.Test.YtiooimnlkcpnnaaDoorMove
namespace Go.Proofs.YtiooimnlkcpnnaaDoor
open Go.ChangeShapes Go.WideShapes Go.ChangeAt Go.RowKit
set_option maxRecDepth 100000
theorem moved_step_ins {push : Bool} {r : Int} {l : List (Int × Int)} {at_ old new R : Int} (h : movedGo push ((2, r) :: l) at_ old new = R) : (¬ (old < at_ ∨ (old = at_ ∧ push = true)) → movedGo push l at_ old new = R) ∧ ((old < at_ ∨ (old = at_ ∧ push = true)) → movedGo push l at_ old (new + 1) = R) := by
  unfold movedGo at h
  rw [if_pos rfl] at h
  exact ⟨fun q => by rwa [if_neg q] at h, fun q => by rwa [if_pos q] at h⟩
theorem moved_step_oth {push : Bool} {k r : Int} {l : List (Int × Int)} {at_ old new R : Int} (h2 : k ≠ 2) (h : movedGo push ((k, r) :: l) at_ old new = R) : (¬ (k = 1 ∧ old < at_) → movedGo push l at_ (old + 1) new = R) ∧ ((k = 1 ∧ old < at_) → movedGo push l at_ (old + 1) (new + 1) = R) := by
  unfold movedGo at h
  rw [if_neg h2] at h
  exact ⟨fun q => by rwa [if_neg q] at h, fun q => by rwa [if_pos q] at h⟩
set_option maxHeartbeats 2000000 in
theorem Moved_loop (w : World) (at_ : Int) (push : Bool) (A : Option Addr) (c : Nat) (ps : List PartD) (hT : Tabs w) (hs : OpIn (· < w.heap.size) w A ps) (hm : ps.length ≤ 1048576) (ht : ∀ p ∈ ps, p.text.size ≤ 1048576)
    (hf : opFault ps = 0) (h1 : 0 ≤ at_) (h2 : at_ ≤ (lens ps).1) :
    Calls Tryd.prog 20 #[.int .i64 at_, .slice A ps.length c, .bool push] w fun e w' => e = .returned (.tuple #[.int .i64 (movedGo push (stepsOf ps) at_ 0 0), .int .i64 0]) ∧ Below w.heap.size w w' := by
  obtain ⟨h8, hok, h3, _⟩ := opFault_zero hf
  obtain ⟨x1, x2, n1, n2⟩ := op_from hf
  have hsl := stepsOf_length hok
  have hC := OpFault_c w A c ps hT hs hm ht
  rw [hf] at hC
  have HC := Lib.hid hC
  have HTX := Lib.hid ht
  have HD0 := Lib.hid (show movedGo push ((stepsOf ps).drop 0) at_ 0 0 = movedGo push (stepsOf ps) at_ 0 0 by simp)
  have HLn := Lib.hid (fun W hW => LengthsOf_c W A c ps hW hm HTX.out)
  have HSt := Lib.hid (fun W hW => steps_c W A c ps hW hm HTX.out (by omega))
  have hl8 : (stepsOf ps).length ≤ 8000 := by omega
  have h4 : at_ ≤ 4000 := by omega
  generalize hR : movedGo push (stepsOf ps) at_ 0 0 = R at *
  generalize lens ps = L at *
  generalize stepsOf ps = l at *
  obtain ⟨L1, L2⟩ := L
  dsimp only at *
  have HIn := Lib.hid (And.intro h1 h2)
  clear hR hC hf hok ht hT h3 n1 n2 hsl h1 h2 x1 x2
  go_enter Tryd.func20, Tryd.ntmps20
  go_wp2_with fail
  refine HC.out.mono ?_
  rintro e w1 ⟨rfl, hb1⟩
  have HS1 := Lib.hid (Sl.later hs hb1)
  go_wp2_with fail
  refine (HLn.out _ HS1.out).mono ?_
  rintro e w2 ⟨rfl, hb2⟩
  have HS2 := Lib.hid (Sl.later HS1.out hb2)
  have hb3 := bThen hb1 hb2
  clear hb1 hb2 HS1
  go_wp2_with fail
  refine (In_yes _ _ _ _ HIn.out.1 HIn.out.2).mono ?_
  rintro e w' ⟨rfl, hw⟩
  rw [← hw]
  clear hw
  go_wp2_with fail
  refine (HSt.out _ HS2.out).mono ?_
  rintro e w5 ⟨A5, c5, rfl, hown5, hb5⟩
  have HB5 := Lib.hid (bThen hb3 hb5)
  have HS5 := Sl.of_own _ hown5
  clear hb5 HS2 hb3 hown5
  go_wp2_with fail
  go_loop [12, 13, 14] (fun o n i => ∃ (k : Nat) (o' n' : Int), k ≤ l.length ∧ i = .int .i64 k ∧ o = .int .i64 o' ∧ n = .int .i64 n' ∧ (0 ≤ o' ∧ o' ≤ k) ∧ (0 ≤ n' ∧ n' ≤ k) ∧ Hid (movedGo push (l.drop k) at_ o' n' = R))
    (fun _ _ i => l.length - (intOf i).toNat)
  case atStart => exact ⟨0, 0, 0, Nat.zero_le _, rfl, rfl, rfl, by omega, by omega, HD0⟩
  case round =>
    obtain ⟨k, o', n', hk, rfl, rfl, rfl, ⟨ho1, ho2⟩, ⟨hn1, hn2⟩, hd⟩ := hrel
    have ob : o' ≤ 8000 := by omega
    have nb : n' ≤ 8000 := by omega
    by_cases hlt : k < l.length
    · obtain ⟨b, o, rfl, hbs, g0, g1⟩ := StepsIn.at_ HS5 hlt
      have HD := Lib.hid (show movedGo push (l[k] :: l.drop (k + 1)) at_ o' n' = R by rw [← List.drop_eq_getElem_cons hlt]; exact hd.out)
      clear hd
      generalize l[k] = x at *
      obtain ⟨kd, rr⟩ := x
      dsimp only at *
      by_cases hk2 : kd = 2
      · subst hk2
        have HM := Lib.hid (moved_step_ins HD.out)
        by_cases hoa : o' < at_
        · have HR := Lib.hid (HM.out.2 (.inl hoa))
          go_wp2_with fail
          go_round
          case rel => exact ⟨k + 1, o', n' + 1, by omega, by go_num, rfl, by go_num, by omega, by omega, HR⟩
          case measure => simp [intOf]; omega
        · have z1 : decide (o' < at_) = false := by simpa using hoa
          by_cases hoe : o' = at_
          · subst hoe
            cases push
            · have HR := Lib.hid (HM.out.1 (by simp))
              go_wp2_with fail
              go_round
              case rel => exact ⟨k + 1, o', n', by omega, by go_num, rfl, rfl, by omega, by omega, HR⟩
              case measure => simp [intOf]; omega
            · have HR := Lib.hid (HM.out.2 (by simp))
              go_wp2_with fail
              go_round
              case rel => exact ⟨k + 1, o', n' + 1, by omega, by go_num, rfl, by go_num, by omega, by omega, HR⟩
              case measure => simp [intOf]; omega
          · have z2 : (o' == at_) = false := by simpa using hoe
            have HR := Lib.hid (HM.out.1 (by omega))
            clear hoe
            go_wp2_with fail
            go_round
            case rel => exact ⟨k + 1, o', n', by omega, by go_num, rfl, rfl, by omega, by omega, HR⟩
            case measure => simp [intOf]; omega
      · have q2 : (kd == 2) = false := by simpa using hk2
        have HM := Lib.hid (moved_step_oth hk2 HD.out)
        clear hk2
        by_cases hk1 : kd = 1
        · subst hk1
          by_cases hoa : o' < at_
          · have HR := Lib.hid (HM.out.2 ⟨rfl, hoa⟩)
            go_wp2_with fail
            go_round
            case rel => exact ⟨k + 1, o' + 1, n' + 1, by omega, by go_num, by go_num, by go_num, by omega, by omega, HR⟩
            case measure => simp [intOf]; omega
          · have z1 : decide (o' < at_) = false := by simpa using hoa
            have HR := Lib.hid (HM.out.1 (fun q => hoa q.2))
            go_wp2_with fail
            go_round
            case rel => exact ⟨k + 1, o' + 1, n', by omega, by go_num, by go_num, rfl, by omega, by omega, HR⟩
            case measure => simp [intOf]; omega
        · have q1 : (kd == 1) = false := by simpa using hk1
          have HR := Lib.hid (HM.out.1 (fun q => hk1 q.1))
          clear hk1
          go_wp2_with fail
          go_round
          case rel => exact ⟨k + 1, o' + 1, n', by omega, by go_num, by go_num, rfl, by omega, by omega, HR⟩
          case measure => simp [intOf]; omega
    · obtain rfl : k = l.length := by omega
      have HR := Lib.hid (show n' = R by have := hd.out; rwa [List.drop_length] at this)
      clear hd
      go_wp2_with fail
      go_ret2
      exact ⟨(by rw [HR.out]; first | done | rfl), HB5.out⟩
theorem Moved_c (w : World) (at_ : Int) (push : Bool) (A : Option Addr) (c : Nat) (ps : List PartD) (hT : Tabs w) (hs : OpIn (· < w.heap.size) w A ps) (hm : ps.length ≤ 1048576) (ht : ∀ p ∈ ps, p.text.size ≤ 1048576) :
    Calls Tryd.prog 20 #[.int .i64 at_, .slice A ps.length c, .bool push] w fun e w' => e = .returned (.tuple #[.int .i64 (if moveErr at_ ps = 0 then moveGo push ps at_ 0 0 else 0), .int .i64 (moveErr at_ ps)]) ∧ Below w.heap.size w w' := by
  have hC := OpFault_c w A c ps hT hs hm ht
  have HLn := Lib.hid (fun W hW => LengthsOf_c W A c ps hW hm ht)
  by_cases hf : opFault ps = 0
  · by_cases h1 : at_ < 0 ∨ (lens ps).1 < at_
    · rw [show moveErr at_ ps = 2 by simp [moveErr, hf, h1], if_neg (by decide)]
      rw [hf] at hC
      have HC := Lib.hid hC
      clear hC hf ht hT
      generalize lens ps = L at *
      obtain ⟨L1, L2⟩ := L
      dsimp only at *
      have H1 := Lib.hid h1
      clear h1
      go_enter Tryd.func20, Tryd.ntmps20
      go_wp2_with fail
      refine HC.out.mono ?_
      rintro e w1 ⟨rfl, hb1⟩
      have HS1 := Lib.hid (Sl.later hs hb1)
      obtain ⟨⟨d1, os1⟩, rfl⟩ := beyond_of hb1
      go_wp2_with fail
      refine (HLn.out _ HS1.out).mono ?_
      rintro e w2 ⟨rfl, hb2⟩
      obtain ⟨⟨d2, os2⟩, rfl⟩ := beyond_of hb2
      go_wp2_with fail
      refine (In_no _ _ _ _ H1.out).mono ?_
      rintro e w' ⟨rfl, rfl⟩
      go_wp2_with fail
      go_ret2
      exact ⟨rfl, (by repeat (first | exact Below.refl _ _ | apply bGrow | apply bAlloc | apply Below.drew | apply bDrewN | apply bIter))⟩
    · rw [show moveErr at_ ps = 0 by simp [moveErr, hf, h1], if_pos rfl, move_law push ps at_ 0 0 (opFault_zero hf).2.1 (by omega)]
      exact Moved_loop w at_ push A c ps hT hs hm ht hf (by omega) (by omega)
  · rw [show moveErr at_ ps = opFault ps by simp [moveErr, hf], if_neg hf]
    have hb0 : (opFault ps == 0) = false := by simpa using hf
    generalize opFault ps = x at *
    generalize lens ps = L at *
    obtain ⟨L1, L2⟩ := L
    dsimp only at *
    have HC := Lib.hid hC
    clear hC hf
    go_enter Tryd.func20, Tryd.ntmps20
    go_wp2_with fail
    refine HC.out.mono ?_
    rintro e w1 ⟨rfl, hb1⟩
    have HS1 := Lib.hid (Sl.later hs hb1)
    obtain ⟨⟨d1, os1⟩, rfl⟩ := beyond_of hb1
    go_wp2_with fail
    refine (HLn.out _ HS1.out).mono ?_
    rintro e w2 ⟨rfl, hb2⟩
    obtain ⟨⟨d2, os2⟩, rfl⟩ := beyond_of hb2
    go_wp2_with fail
    go_ret2
    exact ⟨rfl, (by repeat (first | exact Below.refl _ _ | apply bGrow | apply bAlloc | apply Below.drew | apply bDrewN | apply bIter))⟩
end Go.Proofs.YtiooimnlkcpnnaaDoor
