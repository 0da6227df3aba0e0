/- A part of the proof of NodeUndoes. -/
import Derived.Test.YtacacoklddogmaaGreatDoorKDA
namespace Go.Proofs.YtacacoklddogmaaGreatDoor
set_option maxHeartbeats 4000000
open Go.ChangeShapes Go.WideShapes Go.ChangeAt Go.RowKit
set_option maxRecDepth 100000
theorem rd_ (n : Int) (s : ByteArray) (w : World) (hs : s.size ≤ 1048576) :
 Calls Tryz.prog 126 #[partV 2 n s] w (R_ w (.int .i64 (Lib.runeCount s))) := by
 go_enter Tryz.func126, Tryz.ntmps126
 go_wp2_with fail
 refine (cg_ s _ hs).mono ?_
 rintro e w1 ⟨rfl, hb1⟩
 obtain ⟨⟨d1, os1⟩, rfl⟩ := a_ hb1
 go_wp2_with fail
 go_ret
 exact ⟨rfl, bz_⟩
theorem wi_ : ∀ {ps : List PartD}, okParts ps → ∀ p ∈ ps, partFault p = 0
 | [], _, p, hp => by cases hp
 | q :: ps, ⟨h1, _, h2⟩, p, hp => by
  rcases List.mem_cons.1 hp with rfl | h
  · exact h1
  · exact wi_ h2 p h
theorem ok_ {push : Bool} {n : Int} {s : ByteArray} {ps : List PartD} {old new R : Int} (h : moveGo push (⟨2, n, s⟩ :: ps) old old new = R) (hp : push = false) : new + old - old = R := by
 unfold moveGo at h
 rwa [if_pos rfl, if_pos (.inr ⟨rfl, hp⟩)] at h
theorem jf_ {push : Bool} {n : Int} {s : ByteArray} {ps : List PartD} {at_ old new R : Int} (h : moveGo push (⟨2, n, s⟩ :: ps) at_ old new = R) (hp : ¬ (at_ < old ∨ (old = at_ ∧ push = false))) : moveGo push ps at_ old (new + Lib.runeCount s) = R := by
 unfold moveGo at h
 rwa [if_pos rfl, if_neg hp] at h
theorem mp_ {push : Bool} {n : Int} {s : ByteArray} {ps : List PartD} {at_ old new R : Int} (h : moveGo push (⟨1, n, s⟩ :: ps) at_ old new = R) (hp : at_ < old + n) : new + at_ - old = R := by
 unfold moveGo at h
 rwa [if_neg (by simp), if_pos rfl, if_pos hp] at h
theorem qn_ {push : Bool} {n : Int} {s : ByteArray} {ps : List PartD} {at_ old new R : Int} (h : moveGo push (⟨1, n, s⟩ :: ps) at_ old new = R) (hp : ¬ at_ < old + n) : moveGo push ps at_ (old + n) (new + n) = R := by
 unfold moveGo at h
 rwa [if_neg (by simp), if_pos rfl, if_neg hp] at h
theorem oj_ {push : Bool} {n : Int} {s : ByteArray} {ps : List PartD} {at_ old new R : Int} (h : moveGo push (⟨3, n, s⟩ :: ps) at_ old new = R) (hp : at_ < old + n) : moveGo push ps (old + n) (old + n) new = R := by
 unfold moveGo at h
 rwa [if_neg (by simp), if_neg (by simp), if_pos hp] at h
theorem sc_ {push : Bool} {n : Int} {s : ByteArray} {ps : List PartD} {at_ old new R : Int} (h : moveGo push (⟨3, n, s⟩ :: ps) at_ old new = R) (hp : ¬ at_ < old + n) : moveGo push ps at_ (old + n) new = R := by
 unfold moveGo at h
 rwa [if_neg (by simp), if_neg (by simp), if_neg hp] at h
def moveErr (at_ : Int) (ps : List PartD) : Int := if opFault ps ≠ 0 then opFault ps else if at_ < 0 ∨ (lens ps).1 < at_ then 2 else 0
theorem ur_ (w : World) (at_ : Int) (push : Bool) (A : Option Addr) (c : Nat) (ps : List PartD) (hT : Tabs w) (hs : OpIn (· < w.heap.size) w A ps) (hm : ps.length ≤ 1048576) (ht : ∀ p ∈ ps, p.text.size ≤ 1048576)
 (hf : opFault ps = 0) (h1 : 0 ≤ at_) (h2 : at_ ≤ (lens ps).1) :
 Calls Tryz.prog 99 #[.int .i64 at_, .slice A ps.length c, .bool push] w (R_ w (.tuple #[.int .i64 (moveGo push ps at_ 0 0), .int .i64 0])) := by
 obtain ⟨h8, hok, h3, _⟩ := bx_ hf
 have hC := bj_ w A c ps hT hs hm ht
 rw [hf] at hC
 have HC := h_ hC
 have HOK := h_ (wi_ hok)
 have HTX := h_ ht
 have HD0 := h_ (show moveGo push (ps.drop 0) at_ 0 0 = moveGo push ps at_ 0 0 by simp)
 have HLn := h_ (fun W hW => bt_ W A c ps hW hm HTX.out)
 have h4 : at_ ≤ 4000 := by omega
 have e1 : decide (at_ < 0) = false := by simp; omega
 have e2 : decide ((lens ps).1 < at_) = false := by simp; omega
 generalize hR : moveGo push ps at_ 0 0 = R at *
 generalize lens ps = L at *
 obtain ⟨L1, L2⟩ := L
 dsimp only at *
 clear hR hC hf hok ht hT h3 h2
 go_enter Tryz.func99, Tryz.ntmps99
 go_wp2_with fail
 refine HC.out.mono ?_
 rintro e w1 ⟨rfl, hb1⟩
 have HS1 := h_ (Sl.later hs hb1)
 obtain ⟨⟨d1, os1⟩, rfl⟩ := a_ hb1
 go_wp2_with fail
 refine (HLn.out _ HS1.out).mono ?_
 rintro e w2 ⟨rfl, hb2⟩
 have hb3 := bThen (bGrow (Below.refl _ _) d1 os1) hb2
 clear hb2 HS1
 go_wp2_with fail
 go_loopw [0, 11, 12, 34] (fun a o n i wr => ∃ (k : Nat) (a' o' n' : Int), k ≤ ps.length ∧ i = .int .i64 k ∧ a = .int .i64 a' ∧ o = .int .i64 o' ∧ n = .int .i64 n' ∧ (0 ≤ o' ∧ o' ≤ 4000 * k) ∧ (0 ≤ n' ∧ n' ≤ 4000 * k) ∧ (o' ≤ a' ∧ a' ≤ 4000 * k + 4000) ∧ Hid (moveGo push (ps.drop k) a' o' n' = R) ∧ Below w.heap.size w wr)
  (fun _ _ _ i _ => ps.length - (intOf i).toNat)
 case atStart => exact ⟨0, at_, 0, 0, Nat.zero_le _, rfl, rfl, rfl, rfl, by omega, by omega, by omega, HD0, hb3⟩
 case round =>
  obtain ⟨k, a', o', n', hk, rfl, rfl, rfl, rfl, ⟨ho1, ho2⟩, ⟨hn1, hn2⟩, ⟨ha1, ha2⟩, hd, hbw⟩ := hrel
  have ob : o' ≤ 32004000 := by omega
  have nb : n' ≤ 32004000 := by omega
  have ab : a' ≤ 32008000 := by omega
  have a0 : 0 ≤ a' := by omega
  by_cases hlt : k < ps.length
  · obtain ⟨b, o, rfl, hbs, g0, g1, g2⟩ := OpIn.at_ (ps := ps) (Sl.later hs hbw) hlt
    have hpf := HOK.out _ (List.getElem_mem hlt)
    have htx : ps[k].text.size ≤ 1048576 := HTX.out _ (List.getElem_mem hlt)
    have HD := h_ (show moveGo push (ps[k] :: ps.drop (k + 1)) a' o' n' = R by rw [← List.drop_eq_getElem_cons hlt]; exact hd.out)
    clear hd
    generalize ps[k] = p at *
    obtain ⟨kd, pn, tx⟩ := p
    dsimp only at *
    by_cases hk2 : kd = 2
    · subst hk2
      have hrc := (cl_ (fl_ hpf rfl).2.1).1
      clear hpf
      have z1 : decide (a' < o') = false := by simp; omega
      by_cases hoa : o' = a'
      · subst hoa
        cases push
        · have HR := h_ (show n' = R by have := ok_ HD.out rfl; omega)
          go_wp2_with fail
          go_ret2
          exact ⟨(by rw [HR.out]; first | done | rfl), bf_⟩
        · have HR := h_ (jf_ HD.out (by simp))
          go_wp2_with fail
          refine (rd_ pn tx _ htx).mono ?_
          rintro e w4 ⟨rfl, hb4⟩
          obtain ⟨⟨d4, os4⟩, rfl⟩ := a_ hb4
          go_wp2_with fail
          go_roundw
          case rel => exact ⟨k + 1, o', o', n' + Lib.runeCount tx, by omega, by go_num, rfl, rfl, by go_num, by omega, by omega, by omega, HR, bf_⟩
          case measure => simp [intOf]; omega
      · have z2 : (o' == a') = false := by simpa using hoa
        have HR := h_ (jf_ HD.out (by omega))
        clear hoa
        go_wp2_with fail
        refine (rd_ pn tx _ htx).mono ?_
        rintro e w4 ⟨rfl, hb4⟩
        obtain ⟨⟨d4, os4⟩, rfl⟩ := a_ hb4
        go_wp2_with fail
        go_roundw
        case rel => exact ⟨k + 1, a', o', n' + Lib.runeCount tx, by omega, by go_num, rfl, rfl, by go_num, by omega, by omega, by omega, HR, bf_⟩
        case measure => simp [intOf]; omega
    obtain ⟨hk13, hp1, hp2, _⟩ := bw_ hpf hk2
    dsimp only at hk13 hp1 hp2
    have q2 : (kd == 2) = false := by simpa using hk2
    have hp0 : 0 ≤ pn := by omega
    have hw1 : wrap64 (o' + pn) = o' + pn := cs_ (by omega) (by omega)
    have hw2 : wrap64 (n' + pn) = n' + pn := cs_ (by omega) (by omega)
    clear hpf
    by_cases hk1 : kd = 1
    · subst hk1
      clear hk13 hk2 q2
      by_cases ho : a' < o' + pn
      · have HR := h_ (mp_ HD.out ho)
        go_wp2_with fail
        go_ret2
        exact ⟨(by rw [HR.out]; first | done | rfl), bf_⟩
      · have HR := h_ (qn_ HD.out ho)
        go_wp2_with fail
        go_quiet (fail)
        go_wp2_with fail
        go_roundw
        case rel => exact ⟨k + 1, a', o' + pn, n' + pn, by omega, by go_num, rfl, by go_num, by go_num, by omega, by omega, by omega, HR, bf_⟩
        case measure => simp [intOf]; omega
    obtain rfl : kd = 3 := by omega
    clear hk13 hk2 q2 hk1
    by_cases ho : a' < o' + pn
    · have HR := h_ (oj_ HD.out ho)
      go_wp2_with fail
      go_roundw
      case rel => exact ⟨k + 1, o' + pn, o' + pn, n', by omega, by go_num, by go_num, by go_num, rfl, by omega, by omega, by omega, HR, bf_⟩
      case measure => simp [intOf]; omega
    · have HR := h_ (sc_ HD.out ho)
      go_wp2_with fail
      go_roundw
      case rel => exact ⟨k + 1, a', o' + pn, n', by omega, by go_num, rfl, by go_num, rfl, by omega, by omega, by omega, HR, bf_⟩
      case measure => simp [intOf]; omega
  · obtain rfl : k = ps.length := by omega
    have HR := h_ (show n' = R by have := hd.out; rwa [List.drop_length] at this)
    clear hd
    go_wp2_with fail
    go_ret2
    exact ⟨(by rw [HR.out]; first | done | rfl), hbw⟩
theorem zq_ (w : World) (at_ : Int) (push : Bool) (A : Option Addr) (c : Nat) (ps : List PartD) (hT : Tabs w) (hs : OpIn (· < w.heap.size) w A ps) (hm : ps.length ≤ 1048576) (ht : ∀ p ∈ ps, p.text.size ≤ 1048576) :
 Calls Tryz.prog 99 #[.int .i64 at_, .slice A ps.length c, .bool push] w (R_ w (.tuple #[.int .i64 (if moveErr at_ ps = 0 then moveGo push ps at_ 0 0 else 0), .int .i64 (moveErr at_ ps)])) := by
 have hC := bj_ w A c ps hT hs hm ht
 by_cases hf : opFault ps = 0
 · by_cases h1 : at_ < 0 ∨ (lens ps).1 < at_
   · rw [show moveErr at_ ps = 2 by simp [moveErr, hf, h1], if_neg (by decide)]
     rw [hf] at hC
     have HC := h_ hC
     have HLn := h_ (fun W hW => bt_ W A c ps hW hm ht)
     clear hC hf ht hT
     generalize lens ps = L at *
     obtain ⟨L1, L2⟩ := L
     dsimp only at *
     by_cases h0 : at_ < 0
     · have e1 : decide (at_ < 0) = true := by simpa using h0
       clear h1
       go_enter Tryz.func99, Tryz.ntmps99
       go_wp2_with fail
       refine HC.out.mono ?_
       rintro e w1 ⟨rfl, hb1⟩
       have HS1 := h_ (Sl.later hs hb1)
       obtain ⟨⟨d1, os1⟩, rfl⟩ := a_ hb1
       go_wp2_with fail
       refine (HLn.out _ HS1.out).mono ?_
       rintro e w2 ⟨rfl, hb2⟩
       obtain ⟨⟨d2, os2⟩, rfl⟩ := a_ hb2
       go_wp2_with fail
       go_ret2
       exact ⟨rfl, bz_⟩
     · have e1 : decide (at_ < 0) = false := by simpa using h0
       have e2 : decide (L1 < at_) = true := by simp; omega
       clear h1 h0
       go_enter Tryz.func99, Tryz.ntmps99
       go_wp2_with fail
       refine HC.out.mono ?_
       rintro e w1 ⟨rfl, hb1⟩
       have HS1 := h_ (Sl.later hs hb1)
       obtain ⟨⟨d1, os1⟩, rfl⟩ := a_ hb1
       go_wp2_with fail
       refine (HLn.out _ HS1.out).mono ?_
       rintro e w2 ⟨rfl, hb2⟩
       obtain ⟨⟨d2, os2⟩, rfl⟩ := a_ hb2
       go_wp2_with fail
       go_ret2
       exact ⟨rfl, bz_⟩
   · rw [show moveErr at_ ps = 0 by simp [moveErr, hf, h1], if_pos rfl]
     exact ur_ w at_ push A c ps hT hs hm ht hf (by omega) (by omega)
 · rw [show moveErr at_ ps = opFault ps by simp [moveErr, hf], if_neg hf]
   have hb0 : (opFault ps != 0) = true := by simpa using hf
   generalize opFault ps = x at *
   have HC := h_ hC
   clear hC hf
   go_enter Tryz.func99, Tryz.ntmps99
   go_wp2_with fail
   refine HC.out.mono ?_
   rintro e w1 ⟨rfl, hb1⟩
   obtain ⟨⟨d1, os1⟩, rfl⟩ := a_ hb1
   go_wp2_with fail
   go_ret2
   exact ⟨rfl, bz_⟩
theorem mq_ {push : Bool} {r : Int} {l : List (Int × Int)} {at_ old new R : Int} (h : movedGo push ((2, r) :: l) at_ old new = R) : (¬ (old < at_ ∨ (old = at_ ∧ push = true)) → movedGo push l at_ old new = R) ∧ ((old < at_ ∨ (old = at_ ∧ push = true)) → movedGo push l at_ old (new + 1) = R) := by
 unfold movedGo at h
 rw [if_pos rfl] at h
 exact ⟨fun q => by rwa [if_neg q] at h, fun q => by rwa [if_pos q] at h⟩
theorem mr_ {push : Bool} {k r : Int} {l : List (Int × Int)} {at_ old new R : Int} (h2 : k ≠ 2) (h : movedGo push ((k, r) :: l) at_ old new = R) : (¬ (k = 1 ∧ old < at_) → movedGo push l at_ (old + 1) new = R) ∧ ((k = 1 ∧ old < at_) → movedGo push l at_ (old + 1) (new + 1) = R) := by
 unfold movedGo at h
 rw [if_neg h2] at h
 exact ⟨fun q => by rwa [if_neg q] at h, fun q => by rwa [if_pos q] at h⟩
theorem td_ (w : World) (at_ : Int) (push : Bool) (A : Option Addr) (c : Nat) (ps : List PartD) (hT : Tabs w) (hs : OpIn (· < w.heap.size) w A ps) (hm : ps.length ≤ 1048576) (ht : ∀ p ∈ ps, p.text.size ≤ 1048576)
 (hf : opFault ps = 0) (h1 : 0 ≤ at_) (h2 : at_ ≤ (lens ps).1) :
 Calls Tryz.prog 108 #[.int .i64 at_, .slice A ps.length c, .bool push] w (R_ w (.tuple #[.int .i64 (movedGo push (stepsOf ps) at_ 0 0), .int .i64 0])) := by
 obtain ⟨h8, hok, h3, _⟩ := bx_ hf
 obtain ⟨x1, x2, n1, n2⟩ := ff_ hf
 have hsl := cq_ hok
 have hC := bc_ w A c ps hT hs hm ht
 rw [hf] at hC
 have HC := h_ hC
 have HTX := h_ ht
 have HD0 := h_ (show movedGo push ((stepsOf ps).drop 0) at_ 0 0 = movedGo push (stepsOf ps) at_ 0 0 by simp)
 have HLn := h_ (fun W hW => bi_ W A c ps hW hm HTX.out)
 have HSt := h_ (fun W hW => mw_ W A c ps hW hm HTX.out (by omega))
 have hl8 : (stepsOf ps).length ≤ 8000 := by omega
 have h4 : at_ ≤ 4000 := by omega
 generalize hR : movedGo push (stepsOf ps) at_ 0 0 = R at *
 generalize lens ps = L at *
 generalize stepsOf ps = l at *
 obtain ⟨L1, L2⟩ := L
 dsimp only at *
 have HIn := h_ (And.intro h1 h2)
 clear hR hC hf hok ht hT h3 n1 n2 hsl h1 h2 x1 x2
 go_enter Tryz.func108, Tryz.ntmps108
 go_wp2_with fail
 refine HC.out.mono ?_
 rintro e w1 ⟨rfl, hb1⟩
 have HS1 := h_ (Sl.later hs hb1)
 go_wp2_with fail
 refine (HLn.out _ HS1.out).mono ?_
 rintro e w2 ⟨rfl, hb2⟩
 have HS2 := h_ (Sl.later HS1.out hb2)
 have hb3 := bThen hb1 hb2
 clear hb1 hb2 HS1
 go_wp2_with fail
 refine (c_ _ _ _ _ HIn.out.1 HIn.out.2).mono ?_
 rintro e w' ⟨rfl, hw⟩
 rw [← hw]
 clear hw
 go_wp2_with fail
 refine (HSt.out _ HS2.out).mono ?_
 rintro e w5 ⟨A5, c5, rfl, hown5, hb5⟩
 have HB5 := h_ (bThen hb3 hb5)
 have HS5 := Sl.of_own _ hown5
 clear hb5 HS2 hb3 hown5
 go_wp2_with fail
 go_loop [12, 13, 14] (fun o n i => ∃ (k : Nat) (o' n' : Int), k ≤ l.length ∧ i = .int .i64 k ∧ o = .int .i64 o' ∧ n = .int .i64 n' ∧ (0 ≤ o' ∧ o' ≤ k) ∧ (0 ≤ n' ∧ n' ≤ k) ∧ Hid (movedGo push (l.drop k) at_ o' n' = R))
  (fun _ _ i => l.length - (intOf i).toNat)
 case atStart => exact ⟨0, 0, 0, Nat.zero_le _, rfl, rfl, rfl, by omega, by omega, HD0⟩
 case round =>
  obtain ⟨k, o', n', hk, rfl, rfl, rfl, ⟨ho1, ho2⟩, ⟨hn1, hn2⟩, hd⟩ := hrel
  have ob : o' ≤ 8000 := by omega
  have nb : n' ≤ 8000 := by omega
  by_cases hlt : k < l.length
  · obtain ⟨b, o, rfl, hbs, g0, g1⟩ := StepsIn.at_ HS5 hlt
    have HD := h_ (show movedGo push (l[k] :: l.drop (k + 1)) at_ o' n' = R by rw [← List.drop_eq_getElem_cons hlt]; exact hd.out)
    clear hd
    generalize l[k] = x at *
    obtain ⟨kd, rr⟩ := x
    dsimp only at *
    by_cases hk2 : kd = 2
    · subst hk2
      have HM := h_ (mq_ HD.out)
      by_cases hoa : o' < at_
      · have HR := h_ (HM.out.2 (.inl hoa))
        go_wp2_with fail
        go_round
        case rel => exact ⟨k + 1, o', n' + 1, by omega, by go_num, rfl, by go_num, by omega, by omega, HR⟩
        case measure => simp [intOf]; omega
      · have z1 : decide (o' < at_) = false := by simpa using hoa
        by_cases hoe : o' = at_
        · subst hoe
          cases push
          · have HR := h_ (HM.out.1 (by simp))
            go_wp2_with fail
            go_round
            case rel => exact ⟨k + 1, o', n', by omega, by go_num, rfl, rfl, by omega, by omega, HR⟩
            case measure => simp [intOf]; omega
          · have HR := h_ (HM.out.2 (by simp))
            go_wp2_with fail
            go_round
            case rel => exact ⟨k + 1, o', n' + 1, by omega, by go_num, rfl, by go_num, by omega, by omega, HR⟩
            case measure => simp [intOf]; omega
        · have z2 : (o' == at_) = false := by simpa using hoe
          have HR := h_ (HM.out.1 (by omega))
          clear hoe
          go_wp2_with fail
          go_round
          case rel => exact ⟨k + 1, o', n', by omega, by go_num, rfl, rfl, by omega, by omega, HR⟩
          case measure => simp [intOf]; omega
    · have q2 : (kd == 2) = false := by simpa using hk2
      have HM := h_ (mr_ hk2 HD.out)
      clear hk2
      by_cases hk1 : kd = 1
      · subst hk1
        by_cases hoa : o' < at_
        · have HR := h_ (HM.out.2 ⟨rfl, hoa⟩)
          go_wp2_with fail
          go_round
          case rel => exact ⟨k + 1, o' + 1, n' + 1, by omega, by go_num, by go_num, by go_num, by omega, by omega, HR⟩
          case measure => simp [intOf]; omega
        · have z1 : decide (o' < at_) = false := by simpa using hoa
          have HR := h_ (HM.out.1 (fun q => hoa q.2))
          go_wp2_with fail
          go_round
          case rel => exact ⟨k + 1, o' + 1, n', by omega, by go_num, by go_num, rfl, by omega, by omega, HR⟩
          case measure => simp [intOf]; omega
      · have q1 : (kd == 1) = false := by simpa using hk1
        have HR := h_ (HM.out.1 (fun q => hk1 q.1))
        clear hk1
        go_wp2_with fail
        go_round
        case rel => exact ⟨k + 1, o' + 1, n', by omega, by go_num, by go_num, rfl, by omega, by omega, HR⟩
        case measure => simp [intOf]; omega
  · obtain rfl : k = l.length := by omega
    have HR := h_ (show n' = R by have := hd.out; rwa [List.drop_length] at this)
    clear hd
    go_wp2_with fail
    go_ret2
    exact ⟨(by rw [HR.out]; first | done | rfl), HB5.out⟩
theorem yw_ (w : World) (at_ : Int) (push : Bool) (A : Option Addr) (c : Nat) (ps : List PartD) (hT : Tabs w) (hs : OpIn (· < w.heap.size) w A ps) (hm : ps.length ≤ 1048576) (ht : ∀ p ∈ ps, p.text.size ≤ 1048576) :
 Calls Tryz.prog 108 #[.int .i64 at_, .slice A ps.length c, .bool push] w (R_ w (.tuple #[.int .i64 (if moveErr at_ ps = 0 then moveGo push ps at_ 0 0 else 0), .int .i64 (moveErr at_ ps)])) := by
 have hC := bc_ w A c ps hT hs hm ht
 have HLn := h_ (fun W hW => bi_ W A c ps hW hm ht)
 by_cases hf : opFault ps = 0
 · by_cases h1 : at_ < 0 ∨ (lens ps).1 < at_
   · rw [show moveErr at_ ps = 2 by simp [moveErr, hf, h1], if_neg (by decide)]
     rw [hf] at hC
     have HC := h_ hC
     clear hC hf ht hT
     generalize lens ps = L at *
     obtain ⟨L1, L2⟩ := L
     dsimp only at *
     have H1 := h_ h1
     clear h1
     go_enter Tryz.func108, Tryz.ntmps108
     go_wp2_with fail
     refine HC.out.mono ?_
     rintro e w1 ⟨rfl, hb1⟩
     have HS1 := h_ (Sl.later hs hb1)
     obtain ⟨⟨d1, os1⟩, rfl⟩ := a_ hb1
     go_wp2_with fail
     refine (HLn.out _ HS1.out).mono ?_
     rintro e w2 ⟨rfl, hb2⟩
     obtain ⟨⟨d2, os2⟩, rfl⟩ := a_ hb2
     go_wp2_with fail
     refine (In_no _ _ _ _ H1.out).mono ?_
     rintro e w' ⟨rfl, rfl⟩
     go_wp2_with fail
     go_ret2
     exact ⟨rfl, bz_⟩
   · rw [show moveErr at_ ps = 0 by simp [moveErr, hf, h1], if_pos rfl, gx_ push ps at_ 0 0 (bx_ hf).2.1 (by omega)]
     exact td_ w at_ push A c ps hT hs hm ht hf (by omega) (by omega)
 · rw [show moveErr at_ ps = opFault ps by simp [moveErr, hf], if_neg hf]
   have hb0 : (opFault ps == 0) = false := by simpa using hf
   generalize opFault ps = x at *
   generalize lens ps = L at *
   obtain ⟨L1, L2⟩ := L
   dsimp only at *
   have HC := h_ hC
   clear hC hf
   go_enter Tryz.func108, Tryz.ntmps108
   go_wp2_with fail
   refine HC.out.mono ?_
   rintro e w1 ⟨rfl, hb1⟩
   have HS1 := h_ (Sl.later hs hb1)
   obtain ⟨⟨d1, os1⟩, rfl⟩ := a_ hb1
   go_wp2_with fail
   refine (HLn.out _ HS1.out).mono ?_
   rintro e w2 ⟨rfl, hb2⟩
   obtain ⟨⟨d2, os2⟩, rfl⟩ := a_ hb2
   go_wp2_with fail
   go_ret2
   exact ⟨rfl, bz_⟩
end Go.Proofs.YtacacoklddogmaaGreatDoor
