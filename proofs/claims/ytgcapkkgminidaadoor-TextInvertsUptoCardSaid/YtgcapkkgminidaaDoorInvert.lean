/-
  Contract of text.Invert.
-/
import Derived.Test.YtgcapkkgminidaaDoorRows
import Derived.Test.YtgcapkkgminidaaDoorBld
import Derived.Test.YtgcapkkgminidaaDoorWalkP
import Derived.Test.YtgcapkkgminidaaDoorApplied
import Derived.Test.YtgcapkkgminidaaDoorOnly
namespace Go.Proofs.YtgcapkkgminidaaDoor
open Go.ChangeShapes Go.WideShapes Go.ChangeAt Go.RowKit
set_option maxRecDepth 100000
/-- What Invert gives. -/
def invOut (s : ByteArray) (ps : List PartD) : List PartD := if applyErr s ps = 0 then grouped (invSteps (runesOf s) (stepsOf ps) 0) else []
theorem applyErr_zero {s : ByteArray} {ps : List PartD} (h : applyErr s ps = 0) : textFault s = 0 ∧ opFault ps = 0 ∧ (lens ps).1 = (Lib.runeCount s : Int) := by
  unfold applyErr at h
  by_cases h1 : textFault s ≠ 0
  · rw [if_pos h1] at h
    exact absurd h h1
  rw [if_neg h1] at h
  by_cases h2 : opFault ps ≠ 0
  · rw [if_pos h2] at h
    exact absurd h h2
  rw [if_neg h2] at h
  by_cases h3 : (lens ps).1 ≠ (Lib.runeCount s : Int)
  · rw [if_pos h3] at h
    cases h
  · exact ⟨Classical.not_not.1 h1, Classical.not_not.1 h2, Classical.not_not.1 h3⟩
theorem Invert_no (w : World) (s : ByteArray) (A : Option Addr) (c : Nat) (ps : List PartD) (hT : Tabs w) (hs : OpIn (· < w.heap.size) w A ps) (hm : ps.length ≤ 1048576) (ht : ∀ p ∈ ps, p.text.size ≤ 1048576) (hst : s.size ≤ 1048576) (he : applyErr s ps ≠ 0) :
    Calls Tryd.prog 13 #[.string s, .slice A ps.length c] w (RetOpE w [] (applyErr s ps)) := by
  have HC := Lib.hid (Apply_c w s A c ps hT hs hm ht hst)
  unfold RetApply at HC
  have hd : (applyErr s ps != 0) = true := by simpa using he
  generalize applyErr s ps = x at *
  clear he hT hs hm ht hst
  go_enter Tryd.func13, Tryd.ntmps13
  go_wp2_with fail
  refine HC.out.mono ?_
  rintro e w1 ⟨rfl, hb1⟩
  go_wp2_with fail
  go_ret2
  exact ⟨none, 0, rfl, World.ownsRow_nil _ _ _ _, hb1⟩
set_option maxHeartbeats 2000000 in
theorem Invert_go (w : World) (s : ByteArray) (A : Option Addr) (c : Nat) (ps : List PartD) (hT : Tabs w) (hs : OpIn (· < w.heap.size) w A ps) (hm : ps.length ≤ 1048576) (ht : ∀ p ∈ ps, p.text.size ≤ 1048576) (hst : s.size ≤ 1048576)
    (ht0 : textFault s = 0) (hf0 : opFault ps = 0) (hln : (lens ps).1 = (Lib.runeCount s : Int)) :
    Calls Tryd.prog 13 #[.string s, .slice A ps.length c] w (RetOpE w (grouped (invSteps (runesOf s) (stepsOf ps) 0)) 0) := by
  have HC := Lib.hid (Apply_c w s A c ps hT hs hm ht hst)
  unfold RetApply at HC
  rw [(applyErr_ok ht0 hf0 hln).1] at HC
  obtain ⟨h8, hok, _, _⟩ := opFault_zero hf0
  obtain ⟨e1, e2, n1, n2⟩ := op_from hf0
  have hrl := runesOf_length s
  have hfr : 0 + fromN (ps.drop 0) = (runesOf s).length := by rw [List.drop_zero]; omega
  have HRA := Lib.hid (runes_at s hst)
  have HTOT := Lib.hid (show [] ++ invSteps (runesOf s) (stepsOf (ps.drop 0)) 0 = invSteps (runesOf s) (stepsOf ps) 0 by simp)
  have HLN := Lib.hid (inv_length (runesOf s) (stepsOf ps) 0)
  have HSL := Lib.hid (stepsOf_length hok)
  have HOK := Lib.hid (okParts_mem hok)
  have HTX := Lib.hid ht
  have HF0 := Lib.hid hfr
  generalize hTT : invSteps (runesOf s) (stepsOf ps) 0 = T at *
  generalize runesOf s = r at *
  have hr4 : r.length ≤ 4000 := by omega
  clear ht0 hf0 hln hok ht e1 e2 hfr hTT hrl hT
  go_enter Tryd.func13, Tryd.ntmps13
  go_wp2_with fail
  refine HC.out.mono ?_
  rintro e w1 ⟨rfl, hb1⟩
  have HS1 := Lib.hid (Sl.later hs hb1)
  obtain ⟨W2, c2, hcv, hb2, hra2, hc2⟩ := HRA.out w1
  have HRA2 := Lib.hid hra2
  have HB2 := Lib.hid (bThen hb1 hb2)
  have HS2 := Lib.hid (Sl.later HS1.out hb2)
  clear hb1 hb2 hra2 HC HRA HS1 hs
  have hg2 := HRA2.out.lt
  generalize hG : w1.heap.size = g at *
  clear hG
  go_wp2_with fail
  go_loopw [10, 28] (fun at_ i wr => ∃ (k a : Nat) (rs : List PartD) (out : List (Int × Int)) (Ab : Option Addr) (cb : Nat), k ≤ ps.length ∧ i = .int .i64 k ∧ at_ = .int .i64 a ∧ Hid (Bld wr W2.heap.size W2.heap.size Ab cb rs) ∧ Hid (Holds rs out) ∧ Hid (a + fromN (ps.drop k) = r.length) ∧ Hid (out ++ invSteps r (stepsOf (ps.drop k)) a = T) ∧ RunesAt wr g r ∧ Below W2.heap.size W2 wr)
    (fun _ i _ => ps.length - (intOf i).toNat)
  case atStart => exact ⟨0, 0, [], [], none, 0, Nat.zero_le _, rfl, rfl, Bld.new W2, holds_nil, HF0, HTOT, HRA2.out.alloc _, bAlloc (Below.refl _ _) _⟩
  case round =>
    obtain ⟨k, a, rs, out, Ab, cb, hk, rfl, rfl, hbl, hho, hfr, hout, hra, hbw⟩ := hrel
    have hsz := hbw.size
    have hfr := hfr.out
    have hol : out.length ≤ 8000 := by
      have := congrArg List.length hout.out
      rw [List.length_append] at this
      have := HLN.out
      have := HSL.out
      omega
    have hBl := hbl.out.lt
    by_cases hlt : k < ps.length
    · obtain ⟨b, o, rfl, hbs, g0, g1, g2⟩ := OpIn.at_ (ps := ps) (Sl.later HS2.out hbw) hlt
      have htx := HTX.out _ (List.getElem_mem hlt)
      have hpf := HOK.out _ (List.getElem_mem hlt)
      have HD := Lib.hid (List.drop_eq_getElem_cons hlt)
      have HOU := Lib.hid (show out ++ invSteps r (stepsOf (ps[k] :: ps.drop (k + 1))) a = T by rw [← HD.out]; exact hout.out)
      rw [HD.out] at hfr
      clear hout
      generalize ps[k] = p at *
      obtain ⟨kd, pn, tx⟩ := p
      dsimp only at *
      obtain ⟨WA, hWA⟩ : ∃ WA, WA = wr.alloc (.cells #[.int .i64 kd, .int .i64 pn, .string tx] 79) := ⟨_, rfl⟩
      have hba : Below wr.heap.size wr WA := by rw [hWA]; exact bAlloc (Below.refl _ _) _
      have hWc : WA.heap[wr.heap.size]? = some (.cells #[.int .i64 kd, .int .i64 pn, .string tx] 79 (0, 0)) := by rw [hWA]; exact heap_alloc_new _ _
      have HBA := Lib.hid (hbl.out.later hba)
      have HRW := Lib.hid (fun x hx => (hbl.out.lay x hx).2)
      have HRA3 := Lib.hid (hra.below hba hra.lt)
      have HBL := Lib.hid (bThen hbw hba)
      have HWC := Lib.hid hWc
      have hne : wr.heap.size ≠ W2.heap.size := by omega
      have hWz : wr.heap.size < WA.heap.size := (Array.getElem?_eq_some_iff.1 hWc).1
      have HLEN := Lib.hid hho.out.len
      have HTEX := Lib.hid hho.out.text
      clear hWc hba hbl
      by_cases hk1 : kd = 1
      · subst hk1
        obtain ⟨_, hp1, hp2, _⟩ := kind_other hpf (by simp)
        dsimp only at hp1 hp2
        obtain ⟨n, rfl⟩ : ∃ n : Nat, pn = n := ⟨pn.toNat, by omega⟩
        rw [fromN_oth (by decide), Int.toNat_natCast] at hfr
        have HFR := Lib.hid (show a + n + fromN (ps.drop (k + 1)) = r.length by omega)
        have ha : a + n ≤ r.length := by omega
        clear hfr
        have HE := Lib.hid (show (out ++ othS 1 n) ++ invSteps r (stepsOf (ps.drop (k + 1))) (a + n) = T by
          have := HOU.out
          rw [stepsOf_cons, show partSteps ⟨1, (n : Int), tx⟩ = othS 1 n from partSteps_oth (by simp), inv_keep] at this
          rw [List.append_assoc]
          exact this)
        have HH := Lib.hid (hho.out.keep n (by omega) (by omega))
        clear hho HOU HD hp1
        go_wp2_with fail
        rw [← hWA]
        refine (keep_c WA _ _ Ab cb n rs HBA.out (by have := HLEN.out; omega)).mono ?_
        rintro e w4 ⟨rfl, hto⟩
        have hc4 := (hto.stays hWz hne (fun e => by have := HRW.out _ e; omega)).trans HWC.out
        obtain ⟨_, x1, _, _, _, _, _⟩ := three_cell hc4
        obtain ⟨A4, c4, hbl4, hb4⟩ := BldTo.go HBA.out hto
        have HB4 := Lib.hid hbl4
        have HBW := Lib.hid (bOver HBL.out hb4)
        clear hto hc4 hbl4 hne hWz hWA
        go_wp2_with fail
        go_roundw
        case rel => exact ⟨k + 1, a + n, _, _, A4, c4, by omega, by go_num, by go_num, HB4, HH, HFR, HE, HRA3.out.below hb4 hg2, HBW.out⟩
        case measure => simp [intOf]; omega
      have e1 : (kd == 1) = false := by simpa using hk1
      by_cases hk2 : kd = 2
      · subst hk2
        have hrl := runesOf_length tx
        have hps := (partSteps_some hpf).1
        have hpb := (partSteps_some hpf).2
        rw [show partSteps ⟨2, pn, tx⟩ = insS (runesOf tx) from partSteps_ins rfl] at hps hpb
        simp only [insS, List.length_map] at hps hpb
        have HFR := Lib.hid (show a + fromN (ps.drop (k + 1)) = r.length by
          have : fromN (⟨2, pn, tx⟩ :: ps.drop (k + 1)) = 0 + fromN (ps.drop (k + 1)) := rfl
          omega)
        have ha : a ≤ r.length := by omega
        clear hfr
        have HE := Lib.hid (show (out ++ othS 3 (Lib.runeCount tx)) ++ invSteps r (stepsOf (ps.drop (k + 1))) a = T by
          have := HOU.out
          rw [stepsOf_cons, show partSteps ⟨2, pn, tx⟩ = insS (runesOf tx) from partSteps_ins rfl, inv_ins, hrl] at this
          rw [List.append_assoc]
          exact this)
        rw [hrl] at hps hpb
        have HH := Lib.hid (hho.out.del (Lib.runeCount tx) hps (by omega))
        clear hho HOU HD hrl hpf
        go_wp2_with fail
        rw [← hWA]
        refine (runeCount_c tx WA htx).mono ?_
        rintro e w3 ⟨rfl, hb3⟩
        have HB3 := Lib.hid (HBA.out.later hb3)
        have HBL3 := Lib.hid (bThen HBL.out hb3)
        have HRA4 := Lib.hid (HRA3.out.below hb3 HRA3.out.lt)
        clear hb3
        go_wp2_with fail
        refine (remove_c w3 _ _ Ab cb (Lib.runeCount tx) rs HB3.out (by have := HLEN.out; omega)).mono ?_
        rintro e w4 ⟨rfl, hto⟩
        obtain ⟨A4, c4, hbl4, hb4⟩ := BldTo.go HB3.out hto
        have HB4 := Lib.hid hbl4
        have HBW := Lib.hid (bOver HBL3.out hb4)
        clear hto hbl4 hne hWz hWA
        go_wp2_with fail
        go_roundw
        case rel => exact ⟨k + 1, a, _, _, A4, c4, by omega, by go_num, rfl, HB4, HH, HFR, HE, HRA4.out.below hb4 hg2, HBW.out⟩
        case measure => simp [intOf]; omega
      · have e2 : (kd == 2) = false := by simpa using hk2
        obtain ⟨hk13, hp1, hp2, _⟩ := kind_other hpf hk2
        dsimp only at hk13 hp1 hp2
        obtain rfl : kd = 3 := by omega
        obtain ⟨n, rfl⟩ : ∃ n : Nat, pn = n := ⟨pn.toNat, by omega⟩
        rw [fromN_oth (by decide), Int.toNat_natCast] at hfr
        have HFR := Lib.hid (show a + n + fromN (ps.drop (k + 1)) = r.length by omega)
        have ha : a + n ≤ r.length := by omega
        clear hfr
        have hX : (r.drop a).take n ≠ [] := by
          intro e
          have := congrArg List.length e
          rw [List.length_take, List.length_drop] at this
          simp at this
          omega
        have hXl : ((r.drop a).take n).length ≤ 4000 := by
          rw [List.length_take, List.length_drop]
          omega
        have hps := (runesBytes_le ((r.drop a).take n)).2
        have HE := Lib.hid (show (out ++ insS ((r.drop a).take n)) ++ invSteps r (stepsOf (ps.drop (k + 1))) (a + n) = T by
          have := HOU.out
          rw [stepsOf_cons, show partSteps ⟨3, (n : Int), tx⟩ = othS 3 n from partSteps_oth (by simp), inv_del _ _ _ _ (by omega)] at this
          rw [List.append_assoc]
          exact this)
        have HH := Lib.hid (hho.out.ins ((r.drop a).take n) hX)
        have hpc := convPiece (W := wr.alloc (.cells #[.int .i64 3, .int .i64 n, .string tx] 79)) (by rw [← hWA]; exact HRA3.out) a n (c2 - a) (by omega)
        generalize hpi : runesBytes ((r.drop a).take n) = piece at *
        have hn1 : (1 : Int) ≤ n := by omega
        have hne2 : ¬ c2 = a := by omega
        clear hk13 hk1 hk2 hp1 hX hpi hho HOU HD hpf
        go_wp2_with fail
        rw [← hWA]
        refine (insert_c WA _ _ Ab cb piece rs HBA.out (by omega) (by have := HLEN.out; omega) (fun p hp => by have := HTEX.out p hp; omega)).mono ?_
        rintro e w4 ⟨rfl, hto⟩
        have hc4 := (hto.stays hWz hne (fun e => by have := HRW.out _ e; omega)).trans HWC.out
        obtain ⟨_, x1, _, _, _, _, _⟩ := three_cell hc4
        obtain ⟨A4, c4, hbl4, hb4⟩ := BldTo.go HBA.out hto
        have HB4 := Lib.hid hbl4
        have HBW := Lib.hid (bOver HBL.out hb4)
        clear hto hc4 hbl4 hne hWz hWA
        go_wp2_with fail
        go_roundw
        case rel => exact ⟨k + 1, a + n, _, _, A4, c4, by omega, by go_num, by go_num, HB4, HH, HFR, HE, HRA3.out.below hb4 hg2, HBW.out⟩
        case measure => simp [intOf]; omega
    · obtain rfl : k = ps.length := by omega
      have HO := Lib.hid (show out = T by have := hout.out; rw [List.drop_length] at this; simpa [stepsOf, invSteps] using this)
      have hcl := hbl.out.cell
      clear hout hfr
      go_wp2_with fail
      go_ret2
      have hrv := hho.out.rev
      rw [HO.out] at hrv
      have h9 := hbl.out.out (base' := w.heap.size) (by have := HB2.out.size; omega)
      rw [hrv] at h9
      exact ⟨Ab, cb, (by rw [← hrv, List.length_reverse]; rfl), h9, bThen HB2.out hbw⟩
theorem Invert_c (w : World) (s : ByteArray) (A : Option Addr) (c : Nat) (ps : List PartD) (hT : Tabs w) (hs : OpIn (· < w.heap.size) w A ps) (hm : ps.length ≤ 1048576) (ht : ∀ p ∈ ps, p.text.size ≤ 1048576) (hst : s.size ≤ 1048576) :
    Calls Tryd.prog 13 #[.string s, .slice A ps.length c] w (RetOpE w (invOut s ps) (applyErr s ps)) := by
  by_cases he : applyErr s ps = 0
  · unfold invOut
    rw [if_pos he, he]
    obtain ⟨h1, h2, h3⟩ := applyErr_zero he
    exact Invert_go w s A c ps hT hs hm ht hst h1 h2 h3
  · unfold invOut
    rw [if_neg he]
    exact Invert_no w s A c ps hT hs hm ht hst he
end Go.Proofs.YtgcapkkgminidaaDoor
