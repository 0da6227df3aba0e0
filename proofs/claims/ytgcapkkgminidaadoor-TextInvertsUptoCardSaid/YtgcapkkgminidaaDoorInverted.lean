/-
  Contract of the reference's Inverted.
-/
import Derived.Test.YtgcapkkgminidaaDoorRows
import Derived.Test.YtgcapkkgminidaaDoorGrouped
import Derived.Test.YtgcapkkgminidaaDoorInvert
namespace Go.Proofs.YtgcapkkgminidaaDoor
open Go.ChangeShapes Go.WideShapes Go.ChangeAt Go.RowKit
set_option maxRecDepth 100000
theorem Inverted_no (w : World) (s : ByteArray) (A : Option Addr) (c : Nat) (ps : List PartD) (hT : Tabs w) (hs : OpIn (· < w.heap.size) w A ps) (hm : ps.length ≤ 1048576) (ht : ∀ p ∈ ps, p.text.size ≤ 1048576) (hst : s.size ≤ 1048576) (he : applyErr s ps ≠ 0) :
    Calls Tryd.prog 14 #[.string s, .slice A ps.length c] w (RetOpE w [] (applyErr s ps)) := by
  have HC := Lib.hid (Applied_c w s A c ps hT hs hm ht hst)
  unfold RetApply at HC
  have hd : (applyErr s ps != 0) = true := by simpa using he
  generalize applyErr s ps = x at *
  clear he hT hs hm ht hst
  go_enter Tryd.func14, Tryd.ntmps14
  go_wp2_with fail
  refine HC.out.mono ?_
  rintro e w1 ⟨rfl, hb1⟩
  go_wp2_with fail
  go_ret2
  exact ⟨none, 0, rfl, World.ownsRow_nil _ _ _ _, hb1⟩
theorem inv_cons2 {r : List Int} {x : Int} {l : List (Int × Int)} {a : Nat} : invSteps r ((2, x) :: l) a = (3, 0) :: invSteps r l a := rfl
theorem inv_cons3 {r : List Int} {x : Int} {l : List (Int × Int)} {a : Nat} : invSteps r ((3, x) :: l) a = (2, r.getD a 0) :: invSteps r l (a + 1) := rfl
theorem inv_consO {r : List Int} {k x : Int} {l : List (Int × Int)} {a : Nat} (h2 : k ≠ 2) (h3 : k ≠ 3) : invSteps r ((k, x) :: l) a = (k, x) :: invSteps r l (a + 1) := by
  rw [invSteps_cons, if_neg h2, if_neg h3]
set_option maxHeartbeats 2000000 in
theorem Inverted_go (w : World) (s : ByteArray) (A : Option Addr) (c : Nat) (ps : List PartD) (hT : Tabs w) (hs : OpIn (· < w.heap.size) w A ps) (hm : ps.length ≤ 1048576) (ht : ∀ p ∈ ps, p.text.size ≤ 1048576) (hst : s.size ≤ 1048576)
    (ht0 : textFault s = 0) (hf0 : opFault ps = 0) (hln : (lens ps).1 = (Lib.runeCount s : Int)) :
    Calls Tryd.prog 14 #[.string s, .slice A ps.length c] w (RetOpE w (grouped (invSteps (runesOf s) (stepsOf ps) 0)) 0) := by
  obtain ⟨i0, hi, hz0, hz1, hz2⟩ := info_parts infoStep
  have HC := Lib.hid (Applied_c w s A c ps hT hs hm ht hst)
  unfold RetApply at HC
  rw [(applyErr_ok ht0 hf0 hln).1] at HC
  obtain ⟨h8, hok, _, _⟩ := opFault_zero hf0
  obtain ⟨e1, e2, n1, n2⟩ := op_from hf0
  have hrl := runesOf_length s
  have hfr : 0 + fromS ((stepsOf ps).drop 0) = (runesOf s).length := by rw [List.drop_zero, fromS_steps]; omega
  have hsl := stepsOf_length hok
  have HC4 := Lib.hid (fun W hs => steps_c W A c ps hs hm ht (by omega))
  have HRA := Lib.hid (runes_at s hst)
  have HTOT := Lib.hid (show [] ++ invSteps (runesOf s) ((stepsOf ps).drop 0) 0 = invSteps (runesOf s) (stepsOf ps) 0 by simp)
  have HLN := Lib.hid (inv_length (runesOf s) (stepsOf ps) 0)
  have HF0 := Lib.hid hfr
  generalize hTT : invSteps (runesOf s) (stepsOf ps) 0 = T at *
  generalize runesOf s = r at *
  generalize stepsOf ps = l at *
  have hr4 : r.length ≤ 4000 := by omega
  have hl8 : l.length ≤ 8000 := by omega
  have HG := Lib.hid (fun (W : World) A' c' (h : StepsIn (· < W.heap.size) W A' T) => grouped_c W A' c' T h (by have := HLN.out; omega))
  clear ht0 hf0 hln hok ht e1 e2 hfr hTT hrl hsl hT
  go_enter Tryd.func14, Tryd.ntmps14
  go_wp2_with fail
  refine HC.out.mono ?_
  rintro e w1 ⟨rfl, hb1⟩
  have HS1 := Lib.hid (Sl.later hs hb1)
  obtain ⟨W2, c2, hcv, hb2, hra2, hc2⟩ := HRA.out w1
  have HRA2 := Lib.hid hra2
  have HB2 := Lib.hid (bThen hb1 hb2)
  have HS2 := Lib.hid (Sl.later HS1.out hb2)
  clear hb1 hb2 hra2 HC HRA HS1 hs
  go_wp2_with fail
  refine (HC4.out _ HS2.out).mono ?_
  rintro e w6 ⟨A6, c6, rfl, hown6, hb6⟩
  have HB6 := Lib.hid (bThen HB2.out hb6)
  have HRA6 := HRA2.out.below hb6 HRA2.out.lt
  have HST := Lib.hid (own_sl' hown6)
  have hg6 := HRA6.lt
  have hz6 := HB6.out.size
  clear hb6 hown6 hcv HRA2 HC4 HS2 HB2
  generalize hG : w1.heap.size = g at *
  clear hG
  go_wp2_with fail
  go_loopw [10, 11, 12] (fun o_ at_ i wr => ∃ (k a : Nat) (out : List (Int × Int)) (Ao : Option Addr) (co : Nat), k ≤ l.length ∧ i = .int .i64 k ∧ at_ = .int .i64 a ∧ o_ = .slice Ao out.length co ∧ Hid (out.length = k) ∧ Hid (a + fromS (l.drop k) = r.length) ∧ Hid (out ++ invSteps r (l.drop k) a = T) ∧ wr.ownsRow w6.heap.size 92 2 (.slice Ao out.length co) out.length (stepCells out) ∧ Below w6.heap.size w6 wr)
    (fun _ _ i _ => l.length - (intOf i).toNat)
  case atStart => exact ⟨0, 0, [], none, 0, Nat.zero_le _, rfl, rfl, rfl, rfl, HF0, HTOT, World.ownsRow_nil _ _ _ _, Below.refl _ _⟩
  case round =>
    obtain ⟨k, a, out, Ao, co, hk, rfl, rfl, rfl, hol', hfr, hout, hown, hbw⟩ := hrel
    have hsz := hbw.size
    have hol : out.length ≤ 8000 := by have := hol'.out; omega
    by_cases hlt : k < l.length
    · obtain ⟨b, o, rfl, hbs', g0, g1⟩ := StepsIn.at_ (Sl.later HST.out hbw) hlt
      have HD := Lib.hid (List.drop_eq_getElem_cons hlt)
      have HOU := Lib.hid (show out ++ invSteps r (l[k] :: l.drop (k + 1)) a = T by rw [← HD.out]; exact hout.out)
      have hfr2 := hfr.out
      rw [HD.out] at hfr2
      have HFR := Lib.hid hfr2
      clear hout hfr2 hfr
      generalize l[k] = x at *
      obtain ⟨kd, rr⟩ := x
      dsimp only at *
      by_cases hk2 : kd = 2
      · subst hk2
        have HF2 := Lib.hid (show a + fromS (l.drop (k + 1)) = r.length by have := HFR.out; rw [fromS_cons2] at this; omega)
        have HE := Lib.hid (show (out ++ [(3, 0)]) ++ invSteps r (l.drop (k + 1)) a = T by rw [← HOU.out, inv_cons2]; simp)
        have HOL := Lib.hid (show (out ++ [((3 : Int), (0 : Int))]).length = k + 1 by have := hol'.out; simp; omega)
        have HX := Lib.hid (hown.alloc (.cells #[.int .i64 3, .int .i32 0] 92))
        have HS := Lib.hid (Sl.new (S := fun _ => True) wr [.int .i64 3, .int .i32 0] 92 2 1 rfl trivial)
        clear hol' HFR HOU HD
        go_wp2_with (at_builtin; refine wpList_append_sl _ rfl _ _ 89 rfl w6.heap.size 92 i0 (.agg #[.int .i64 0, .int .i32 0]) 2 16 Tryd.underlying89 hi hz0 hz1 hz2 rfl (by decide) _ _ _ rfl HX.out _ _ _ _ _ rfl HS.out ?c1 ?c2 ?c3 ?c4 ?_)
        case c1 => exact step_one (3, 0)
        case c2 => unfold maxLen; omega
        case c3 => omega
        case c4 => simp; omega
        intro A' c' w7 hown' hgrow hat
        go_wp2_with fail
        go_roundw
        case rel => exact ⟨k + 1, a, out ++ [(3, 0)], A', c', by omega, by go_num, rfl, by simp, HOL, HF2, HE, by simpa [stepCells] using hown', (bAlloc hbw _).grown hgrow (by simp; omega) (fun g hg => (hown.lt g hg).1)⟩
        case measure => simp [intOf]; omega
      have e2 : (kd == 2) = false := by simpa using hk2
      have HF2 := Lib.hid (show a + 1 + fromS (l.drop (k + 1)) = r.length by have := HFR.out; rw [fromS_consO hk2] at this; omega)
      have ha : a < r.length := by have := HF2.out; omega
      by_cases hk3 : kd = 3
      · subst hk3
        have hcell := (hbw.cell (p := ⟨g, 0 + a, none⟩) hg6).trans (HRA6.cells a _ (runes_getD r a ha))
        rw [Nat.zero_add] at hcell
        have HE := Lib.hid (show (out ++ [(2, r.getD a 0)]) ++ invSteps r (l.drop (k + 1)) (a + 1) = T by rw [← HOU.out, inv_cons3]; simp)
        generalize r.getD a 0 = rv at *
        have HOL := Lib.hid (show (out ++ [((2 : Int), rv)]).length = k + 1 by have := hol'.out; simp; omega)
        have HX := Lib.hid (hown.alloc (.cells #[.int .i64 2, .int .i32 rv] 92))
        have HS := Lib.hid (Sl.new (S := fun _ => True) wr [.int .i64 2, .int .i32 rv] 92 2 1 rfl trivial)
        clear hol' HFR HOU HD hk2
        go_wp2_with (at_builtin; refine wpList_append_sl _ rfl _ _ 89 rfl w6.heap.size 92 i0 (.agg #[.int .i64 0, .int .i32 0]) 2 16 Tryd.underlying89 hi hz0 hz1 hz2 rfl (by decide) _ _ _ rfl HX.out _ _ _ _ _ rfl HS.out ?d1 ?d2 ?d3 ?d4 ?_)
        case d1 => exact step_one (2, rv)
        case d2 => unfold maxLen; omega
        case d3 => omega
        case d4 => simp; omega
        intro A' c' w7 hown' hgrow hat
        go_wp2_with fail
        go_roundw
        case rel => exact ⟨k + 1, a + 1, out ++ [(2, rv)], A', c', by omega, by go_num, by go_num, by simp, HOL, HF2, HE, by simpa [stepCells] using hown', (bAlloc hbw _).grown hgrow (by simp; omega) (fun g hg => (hown.lt g hg).1)⟩
        case measure => simp [intOf]; omega
      · have e3 : (kd == 3) = false := by simpa using hk3
        have HE := Lib.hid (show (out ++ [(kd, rr)]) ++ invSteps r (l.drop (k + 1)) (a + 1) = T by rw [← HOU.out, inv_consO hk2 hk3]; simp)
        have HOL := Lib.hid (show (out ++ [(kd, rr)]).length = k + 1 by have := hol'.out; simp; omega)
        have HX := Lib.hid (hown.alloc (.cells #[.int .i64 kd, .int .i32 rr] 92))
        have HS := Lib.hid (Sl.new (S := fun _ => True) wr [.int .i64 kd, .int .i32 rr] 92 2 1 rfl trivial)
        clear hol' HFR HOU HD hk2 hk3
        go_wp2_with (at_builtin; refine wpList_append_sl _ rfl _ _ 89 rfl w6.heap.size 92 i0 (.agg #[.int .i64 0, .int .i32 0]) 2 16 Tryd.underlying89 hi hz0 hz1 hz2 rfl (by decide) _ _ _ rfl HX.out _ _ _ _ _ rfl HS.out ?f1 ?f2 ?f3 ?f4 ?_)
        case f1 => exact step_one (kd, rr)
        case f2 => unfold maxLen; omega
        case f3 => omega
        case f4 => simp; omega
        intro A' c' w7 hown' hgrow hat
        go_wp2_with fail
        go_roundw
        case rel => exact ⟨k + 1, a + 1, out ++ [(kd, rr)], A', c', by omega, by go_num, by go_num, by simp, HOL, HF2, HE, by simpa [stepCells] using hown', (bAlloc hbw _).grown hgrow (by simp; omega) (fun g hg => (hown.lt g hg).1)⟩
        case measure => simp [intOf]; omega
    · obtain rfl : k = l.length := by omega
      have hO : out = T := by have := hout.out; rw [List.drop_length] at this; simpa [invSteps] using this
      clear hout hol' hfr hol HTOT
      subst hO
      go_wp2_with fail
      refine (HG.out wr Ao co (own_sl' hown)).mono ?_
      rintro e w8 ⟨A8, c8, rfl, ho8, hb8⟩
      have HO8 := Lib.hid ho8
      clear ho8
      go_wp2_with fail
      go_ret2
      refine ⟨A8, c8, rfl, ?_, bThen (bThen HB6.out hbw) hb8⟩
      exact ⟨HO8.out.1, HO8.out.2.imp id fun ⟨g, cap, cur, q1, q2, q3⟩ => ⟨g, cap, cur, q1, by have := HB6.out.size; omega, q3⟩⟩
theorem Inverted_c (w : World) (s : ByteArray) (A : Option Addr) (c : Nat) (ps : List PartD) (hT : Tabs w) (hs : OpIn (· < w.heap.size) w A ps) (hm : ps.length ≤ 1048576) (ht : ∀ p ∈ ps, p.text.size ≤ 1048576) (hst : s.size ≤ 1048576) :
    Calls Tryd.prog 14 #[.string s, .slice A ps.length c] w (RetOpE w (invOut s ps) (applyErr s ps)) := by
  by_cases he : applyErr s ps = 0
  · unfold invOut
    rw [if_pos he, he]
    obtain ⟨h1, h2, h3⟩ := applyErr_zero he
    exact Inverted_go w s A c ps hT hs hm ht hst h1 h2 h3
  · unfold invOut
    rw [if_neg he]
    exact Inverted_no w s A c ps hT hs hm ht hst he
end Go.Proofs.YtgcapkkgminidaaDoor
