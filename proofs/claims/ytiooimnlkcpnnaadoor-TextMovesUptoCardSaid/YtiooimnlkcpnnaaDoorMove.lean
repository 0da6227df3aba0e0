/-
  Contracts of text.size, text.Move and the reference's Moved.
-/
import Derived.Test.YtiooimnlkcpnnaaDoorRows
import Derived.Test.YtiooimnlkcpnnaaDoorCheck
import Derived.Test.YtiooimnlkcpnnaaDoorSteps
import Derived.Test.YtiooimnlkcpnnaaDoorApplyP
import Derived.Test.YtiooimnlkcpnnaaDoorIn
namespace Go.Proofs.YtiooimnlkcpnnaaDoor
open Go.ChangeShapes Go.WideShapes Go.ChangeAt Go.RowKit
set_option maxRecDepth 100000
theorem size_ins (n : Int) (s : ByteArray) (w : World) (hs : s.size ≤ 1048576) :
    Calls Tryd.prog 67 #[partV 2 n s] w fun e w' => e = .returned (.int .i64 (Lib.runeCount s)) ∧ Below w.heap.size w w' := by
  go_enter Tryd.func67, Tryd.ntmps67
  go_wp2_with fail
  refine (runeCount_c s _ hs).mono ?_
  rintro e w1 ⟨rfl, hb1⟩
  obtain ⟨⟨d1, os1⟩, rfl⟩ := beyond_of hb1
  go_wp2_with fail
  go_ret
  exact ⟨rfl, (by repeat (first | exact Below.refl _ _ | apply bGrow | apply bAlloc | apply Below.drew | apply bDrewN | apply bIter))⟩
theorem size_oth (k n : Int) (s : ByteArray) (w : World) (hk : (k == 2) = false) :
    Calls Tryd.prog 67 #[partV k n s] w fun e w' => e = .returned (.int .i64 n) ∧ Below w.heap.size w w' := by
  go_enter Tryd.func67, Tryd.ntmps67
  go_wp2_with fail
  go_ret
  exact ⟨rfl, (by repeat (first | exact Below.refl _ _ | apply bGrow | apply bAlloc | apply Below.drew | apply bDrewN | apply bIter))⟩
theorem ok_mem : ∀ {ps : List PartD}, okParts ps → ∀ p ∈ ps, partFault p = 0
  | [], _, p, hp => by cases hp
  | q :: ps, ⟨h1, _, h2⟩, p, hp => by
    rcases List.mem_cons.1 hp with rfl | h
    · exact h1
    · exact ok_mem h2 p h
theorem move_ins_stop {push : Bool} {n : Int} {s : ByteArray} {ps : List PartD} {old new R : Int} (h : moveGo push (⟨2, n, s⟩ :: ps) old old new = R) (hp : push = false) : new + old - old = R := by
  unfold moveGo at h
  rwa [if_pos rfl, if_pos (.inr ⟨rfl, hp⟩)] at h
theorem move_ins_go {push : Bool} {n : Int} {s : ByteArray} {ps : List PartD} {at_ old new R : Int} (h : moveGo push (⟨2, n, s⟩ :: ps) at_ old new = R) (hp : ¬ (at_ < old ∨ (old = at_ ∧ push = false))) : moveGo push ps at_ old (new + Lib.runeCount s) = R := by
  unfold moveGo at h
  rwa [if_pos rfl, if_neg hp] at h
theorem move_keep_stop {push : Bool} {n : Int} {s : ByteArray} {ps : List PartD} {at_ old new R : Int} (h : moveGo push (⟨1, n, s⟩ :: ps) at_ old new = R) (hp : at_ < old + n) : new + at_ - old = R := by
  unfold moveGo at h
  rwa [if_neg (by simp), if_pos rfl, if_pos hp] at h
theorem move_keep_go {push : Bool} {n : Int} {s : ByteArray} {ps : List PartD} {at_ old new R : Int} (h : moveGo push (⟨1, n, s⟩ :: ps) at_ old new = R) (hp : ¬ at_ < old + n) : moveGo push ps at_ (old + n) (new + n) = R := by
  unfold moveGo at h
  rwa [if_neg (by simp), if_pos rfl, if_neg hp] at h
theorem move_del_over {push : Bool} {n : Int} {s : ByteArray} {ps : List PartD} {at_ old new R : Int} (h : moveGo push (⟨3, n, s⟩ :: ps) at_ old new = R) (hp : at_ < old + n) : moveGo push ps (old + n) (old + n) new = R := by
  unfold moveGo at h
  rwa [if_neg (by simp), if_neg (by simp), if_pos hp] at h
theorem move_del_go {push : Bool} {n : Int} {s : ByteArray} {ps : List PartD} {at_ old new R : Int} (h : moveGo push (⟨3, n, s⟩ :: ps) at_ old new = R) (hp : ¬ at_ < old + n) : moveGo push ps at_ (old + n) new = R := by
  unfold moveGo at h
  rwa [if_neg (by simp), if_neg (by simp), if_neg hp] at h
/-- What Move refuses. -/
def moveErr (at_ : Int) (ps : List PartD) : Int := if opFault ps ≠ 0 then opFault ps else if at_ < 0 ∨ (lens ps).1 < at_ then 2 else 0
set_option maxHeartbeats 2000000 in
theorem Move_loop (w : World) (at_ : Int) (push : Bool) (A : Option Addr) (c : Nat) (ps : List PartD) (hT : Tabs w) (hs : OpIn (· < w.heap.size) w A ps) (hm : ps.length ≤ 1048576) (ht : ∀ p ∈ ps, p.text.size ≤ 1048576)
    (hf : opFault ps = 0) (h1 : 0 ≤ at_) (h2 : at_ ≤ (lens ps).1) :
    Calls Tryd.prog 19 #[.int .i64 at_, .slice A ps.length c, .bool push] w fun e w' => e = .returned (.tuple #[.int .i64 (moveGo push ps at_ 0 0), .int .i64 0]) ∧ Below w.heap.size w w' := by
  obtain ⟨h8, hok, h3, _⟩ := opFault_zero hf
  have hC := Check_c w A c ps hT hs hm ht
  rw [hf] at hC
  have HC := Lib.hid hC
  have HOK := Lib.hid (ok_mem hok)
  have HTX := Lib.hid ht
  have HD0 := Lib.hid (show moveGo push (ps.drop 0) at_ 0 0 = moveGo push ps at_ 0 0 by simp)
  have HLn := Lib.hid (fun W hW => Lengths_c W A c ps hW hm HTX.out)
  have h4 : at_ ≤ 4000 := by omega
  have e1 : decide (at_ < 0) = false := by simp; omega
  have e2 : decide ((lens ps).1 < at_) = false := by simp; omega
  generalize hR : moveGo push ps at_ 0 0 = R at *
  generalize lens ps = L at *
  obtain ⟨L1, L2⟩ := L
  dsimp only at *
  clear hR hC hf hok ht hT h3 h2
  go_enter Tryd.func19, Tryd.ntmps19
  go_wp2_with fail
  refine HC.out.mono ?_
  rintro e w1 ⟨rfl, hb1⟩
  have HS1 := Lib.hid (Sl.later hs hb1)
  obtain ⟨⟨d1, os1⟩, rfl⟩ := beyond_of hb1
  go_wp2_with fail
  refine (HLn.out _ HS1.out).mono ?_
  rintro e w2 ⟨rfl, hb2⟩
  have hb3 := bThen (bGrow (Below.refl _ _) d1 os1) hb2
  clear hb2 HS1
  go_wp2_with fail
  go_loopw [0, 11, 12, 34] (fun a o n i wr => ∃ (k : Nat) (a' o' n' : Int), k ≤ ps.length ∧ i = .int .i64 k ∧ a = .int .i64 a' ∧ o = .int .i64 o' ∧ n = .int .i64 n' ∧ (0 ≤ o' ∧ o' ≤ 4000 * k) ∧ (0 ≤ n' ∧ n' ≤ 4000 * k) ∧ (o' ≤ a' ∧ a' ≤ 4000 * k + 4000) ∧ Hid (moveGo push (ps.drop k) a' o' n' = R) ∧ Below w.heap.size w wr)
    (fun _ _ _ i _ => ps.length - (intOf i).toNat)
  case atStart => exact ⟨0, at_, 0, 0, Nat.zero_le _, rfl, rfl, rfl, rfl, by omega, by omega, by omega, HD0, hb3⟩
  case round =>
    obtain ⟨k, a', o', n', hk, rfl, rfl, rfl, rfl, ⟨ho1, ho2⟩, ⟨hn1, hn2⟩, ⟨ha1, ha2⟩, hd, hbw⟩ := hrel
    have ob : o' ≤ 32004000 := by omega
    have nb : n' ≤ 32004000 := by omega
    have ab : a' ≤ 32008000 := by omega
    have a0 : 0 ≤ a' := by omega
    by_cases hlt : k < ps.length
    · obtain ⟨b, o, rfl, hbs, g0, g1, g2⟩ := OpIn.at_ (ps := ps) (Sl.later hs hbw) hlt
      have hpf := HOK.out _ (List.getElem_mem hlt)
      have htx : ps[k].text.size ≤ 1048576 := HTX.out _ (List.getElem_mem hlt)
      have HD := Lib.hid (show moveGo push (ps[k] :: ps.drop (k + 1)) a' o' n' = R by rw [← List.drop_eq_getElem_cons hlt]; exact hd.out)
      clear hd
      generalize ps[k] = p at *
      obtain ⟨kd, pn, tx⟩ := p
      dsimp only at *
      by_cases hk2 : kd = 2
      · subst hk2
        have hrc := (textFault_runes (kind_two hpf rfl).2.1).1
        clear hpf
        have z1 : decide (a' < o') = false := by simp; omega
        by_cases hoa : o' = a'
        · subst hoa
          cases push
          · have HR := Lib.hid (show n' = R by have := move_ins_stop HD.out rfl; omega)
            go_wp2_with fail
            go_ret2
            exact ⟨(by rw [HR.out]; first | done | rfl), (by repeat (first | exact hbw | exact Below.refl _ _ | apply bGrow | apply bAlloc | apply Below.drew | apply bDrewN | apply bIter))⟩
          · have HR := Lib.hid (move_ins_go HD.out (by simp))
            go_wp2_with fail
            refine (size_ins pn tx _ htx).mono ?_
            rintro e w4 ⟨rfl, hb4⟩
            obtain ⟨⟨d4, os4⟩, rfl⟩ := beyond_of hb4
            go_wp2_with fail
            go_roundw
            case rel => exact ⟨k + 1, o', o', n' + Lib.runeCount tx, by omega, by go_num, rfl, rfl, by go_num, by omega, by omega, by omega, HR, (by repeat (first | exact hbw | exact Below.refl _ _ | apply bGrow | apply bAlloc | apply Below.drew | apply bDrewN | apply bIter))⟩
            case measure => simp [intOf]; omega
        · have z2 : (o' == a') = false := by simpa using hoa
          have HR := Lib.hid (move_ins_go HD.out (by omega))
          clear hoa
          go_wp2_with fail
          refine (size_ins pn tx _ htx).mono ?_
          rintro e w4 ⟨rfl, hb4⟩
          obtain ⟨⟨d4, os4⟩, rfl⟩ := beyond_of hb4
          go_wp2_with fail
          go_roundw
          case rel => exact ⟨k + 1, a', o', n' + Lib.runeCount tx, by omega, by go_num, rfl, rfl, by go_num, by omega, by omega, by omega, HR, (by repeat (first | exact hbw | exact Below.refl _ _ | apply bGrow | apply bAlloc | apply Below.drew | apply bDrewN | apply bIter))⟩
          case measure => simp [intOf]; omega
      obtain ⟨hk13, hp1, hp2, _⟩ := kind_other hpf hk2
      dsimp only at hk13 hp1 hp2
      have q2 : (kd == 2) = false := by simpa using hk2
      have hp0 : 0 ≤ pn := by omega
      have hw1 : wrap64 (o' + pn) = o' + pn := wrap64_in (by omega) (by omega)
      have hw2 : wrap64 (n' + pn) = n' + pn := wrap64_in (by omega) (by omega)
      clear hpf
      by_cases hk1 : kd = 1
      · subst hk1
        clear hk13 hk2 q2
        by_cases ho : a' < o' + pn
        · have HR := Lib.hid (move_keep_stop HD.out ho)
          go_wp2_with fail
          go_ret2
          exact ⟨(by rw [HR.out]; first | done | rfl), (by repeat (first | exact hbw | exact Below.refl _ _ | apply bGrow | apply bAlloc | apply Below.drew | apply bDrewN | apply bIter))⟩
        · have HR := Lib.hid (move_keep_go HD.out ho)
          go_wp2_with fail
          go_quiet (fail)
          go_wp2_with fail
          go_roundw
          case rel => exact ⟨k + 1, a', o' + pn, n' + pn, by omega, by go_num, rfl, by go_num, by go_num, by omega, by omega, by omega, HR, (by repeat (first | exact hbw | exact Below.refl _ _ | apply bGrow | apply bAlloc | apply Below.drew | apply bDrewN | apply bIter))⟩
          case measure => simp [intOf]; omega
      obtain rfl : kd = 3 := by omega
      clear hk13 hk2 q2 hk1
      by_cases ho : a' < o' + pn
      · have HR := Lib.hid (move_del_over HD.out ho)
        go_wp2_with fail
        go_roundw
        case rel => exact ⟨k + 1, o' + pn, o' + pn, n', by omega, by go_num, by go_num, by go_num, rfl, by omega, by omega, by omega, HR, (by repeat (first | exact hbw | exact Below.refl _ _ | apply bGrow | apply bAlloc | apply Below.drew | apply bDrewN | apply bIter))⟩
        case measure => simp [intOf]; omega
      · have HR := Lib.hid (move_del_go HD.out ho)
        go_wp2_with fail
        go_roundw
        case rel => exact ⟨k + 1, a', o' + pn, n', by omega, by go_num, rfl, by go_num, rfl, by omega, by omega, by omega, HR, (by repeat (first | exact hbw | exact Below.refl _ _ | apply bGrow | apply bAlloc | apply Below.drew | apply bDrewN | apply bIter))⟩
        case measure => simp [intOf]; omega
    · obtain rfl : k = ps.length := by omega
      have HR := Lib.hid (show n' = R by have := hd.out; rwa [List.drop_length] at this)
      clear hd
      go_wp2_with fail
      go_ret2
      exact ⟨(by rw [HR.out]; first | done | rfl), hbw⟩
theorem Move_c (w : World) (at_ : Int) (push : Bool) (A : Option Addr) (c : Nat) (ps : List PartD) (hT : Tabs w) (hs : OpIn (· < w.heap.size) w A ps) (hm : ps.length ≤ 1048576) (ht : ∀ p ∈ ps, p.text.size ≤ 1048576) :
    Calls Tryd.prog 19 #[.int .i64 at_, .slice A ps.length c, .bool push] w fun e w' => e = .returned (.tuple #[.int .i64 (if moveErr at_ ps = 0 then moveGo push ps at_ 0 0 else 0), .int .i64 (moveErr at_ ps)]) ∧ Below w.heap.size w w' := by
  have hC := Check_c w A c ps hT hs hm ht
  by_cases hf : opFault ps = 0
  · by_cases h1 : at_ < 0 ∨ (lens ps).1 < at_
    · rw [show moveErr at_ ps = 2 by simp [moveErr, hf, h1], if_neg (by decide)]
      rw [hf] at hC
      have HC := Lib.hid hC
      have HLn := Lib.hid (fun W hW => Lengths_c W A c ps hW hm ht)
      clear hC hf ht hT
      generalize lens ps = L at *
      obtain ⟨L1, L2⟩ := L
      dsimp only at *
      by_cases h0 : at_ < 0
      · have e1 : decide (at_ < 0) = true := by simpa using h0
        clear h1
        go_enter Tryd.func19, Tryd.ntmps19
        go_wp2_with fail
        refine HC.out.mono ?_
        rintro e w1 ⟨rfl, hb1⟩
        have HS1 := Lib.hid (Sl.later hs hb1)
        obtain ⟨⟨d1, os1⟩, rfl⟩ := beyond_of hb1
        go_wp2_with fail
        refine (HLn.out _ HS1.out).mono ?_
        rintro e w2 ⟨rfl, hb2⟩
        obtain ⟨⟨d2, os2⟩, rfl⟩ := beyond_of hb2
        go_wp2_with fail
        go_ret2
        exact ⟨rfl, (by repeat (first | exact Below.refl _ _ | apply bGrow | apply bAlloc | apply Below.drew | apply bDrewN | apply bIter))⟩
      · have e1 : decide (at_ < 0) = false := by simpa using h0
        have e2 : decide (L1 < at_) = true := by simp; omega
        clear h1 h0
        go_enter Tryd.func19, Tryd.ntmps19
        go_wp2_with fail
        refine HC.out.mono ?_
        rintro e w1 ⟨rfl, hb1⟩
        have HS1 := Lib.hid (Sl.later hs hb1)
        obtain ⟨⟨d1, os1⟩, rfl⟩ := beyond_of hb1
        go_wp2_with fail
        refine (HLn.out _ HS1.out).mono ?_
        rintro e w2 ⟨rfl, hb2⟩
        obtain ⟨⟨d2, os2⟩, rfl⟩ := beyond_of hb2
        go_wp2_with fail
        go_ret2
        exact ⟨rfl, (by repeat (first | exact Below.refl _ _ | apply bGrow | apply bAlloc | apply Below.drew | apply bDrewN | apply bIter))⟩
    · rw [show moveErr at_ ps = 0 by simp [moveErr, hf, h1], if_pos rfl]
      exact Move_loop w at_ push A c ps hT hs hm ht hf (by omega) (by omega)
  · rw [show moveErr at_ ps = opFault ps by simp [moveErr, hf], if_neg hf]
    have hb0 : (opFault ps != 0) = true := by simpa using hf
    generalize opFault ps = x at *
    have HC := Lib.hid hC
    clear hC hf
    go_enter Tryd.func19, Tryd.ntmps19
    go_wp2_with fail
    refine HC.out.mono ?_
    rintro e w1 ⟨rfl, hb1⟩
    obtain ⟨⟨d1, os1⟩, rfl⟩ := beyond_of hb1
    go_wp2_with fail
    go_ret2
    exact ⟨rfl, (by repeat (first | exact Below.refl _ _ | apply bGrow | apply bAlloc | apply Below.drew | apply bDrewN | apply bIter))⟩
end Go.Proofs.YtiooimnlkcpnnaaDoor
