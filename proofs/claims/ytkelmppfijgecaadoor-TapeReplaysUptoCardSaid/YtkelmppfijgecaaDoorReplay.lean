/-
  Contracts of tape.Replay and its reference ReplayedOf.
-/
import Derived.Test.YtkelmppfijgecaaDoorRows
import Derived.Test.YtkelmppfijgecaaDoorApplied
import Derived.Test.YtkelmppfijgecaaDoorWireA
import Derived.Test.YtkelmppfijgecaaDoorEdgeOpen
import Derived.Test.YtkelmppfijgecaaDoorFlat
namespace Go.Proofs.YtkelmppfijgecaaDoor
open Go.ChangeShapes Go.WideShapes Go.ChangeAt Go.RowKit
set_option maxRecDepth 100000
/-- A record as a slice's cells hold it. -/
structure RecV where
  ep : Int
  o : OpV
instance : Inhabited RecV := ⟨⟨0, ⟨none, 0, []⟩⟩⟩
def RecV.cells (r : RecV) : List Value := [.int .i64 r.ep, r.o.val]
theorem RecV.cells_len (r : RecV) : r.cells.length = 2 := rfl
structure RecsIn (w : World) (A : Option Addr) (L : List RecV) : Prop where
  row : Sl (· < w.heap.size) w 2 A L.length (L.flatMap RecV.cells)
  each : ∀ r ∈ L, OpIn (· < w.heap.size) w r.o.A r.o.ps
theorem RecsIn.later {w w' : World} {A : Option Addr} {L : List RecV} (h : RecsIn w A L) (hb : Below w.heap.size w w') : RecsIn w' A L := ⟨h.row.later hb, fun r hr => Sl.later (h.each r hr) hb⟩
theorem RecsIn.at_ {w : World} {A : Option Addr} {L : List RecV} (h : RecsIn w A L) {k : Nat} (hk : k < L.length) :
    ∃ b o, A = some ⟨b, o, none⟩ ∧ b < w.heap.size ∧ w.cell? ⟨b, o + k * 2, none⟩ = some (.int .i64 L[k].ep) ∧ w.cell? ⟨b, o + k * 2 + 1, none⟩ = some (.slice L[k].o.A L[k].o.ps.length L[k].o.c) ∧ OpIn (· < w.heap.size) w L[k].o.A L[k].o.ps := by
  obtain ⟨b, o, e, hb, hc⟩ := row_at RecV.cells 2 RecV.cells_len h.row hk
  exact ⟨b, o, e, hb, hc 0 _ rfl, hc 1 _ rfl, h.each _ (List.getElem_mem hk)⟩
/-- What a tape's records make, from a text and an epoch on: the text, the epoch, the error. -/
def replayGo : List RecV → ByteArray → Int → ByteArray × Int × Int
  | [], s, ep => (s, ep, 0)
  | r :: L, s, ep =>
    if recordFault r.ep r.o.ps ≠ 0 then (⟨#[]⟩, 0, recordFault r.ep r.o.ps)
    else if 0 < r.ep then replayGo L s (if ep < r.ep then r.ep else ep)
    else if applyErr s r.o.ps ≠ 0 then (⟨#[]⟩, 0, applyErr s r.o.ps)
    else replayGo L (applyText s r.o.ps) ep
theorem replay_bad {r : RecV} {L : List RecV} {s : ByteArray} {ep : Int} (h : recordFault r.ep r.o.ps ≠ 0) : replayGo (r :: L) s ep = (⟨#[]⟩, 0, recordFault r.ep r.o.ps) := if_pos h
theorem replay_ep {r : RecV} {L : List RecV} {s : ByteArray} {ep : Int} (h : recordFault r.ep r.o.ps = 0) (h2 : 0 < r.ep) : replayGo (r :: L) s ep = replayGo L s (if ep < r.ep then r.ep else ep) := by
  rw [replayGo, if_neg (by simpa using h), if_pos h2]
theorem replay_no {r : RecV} {L : List RecV} {s : ByteArray} {ep : Int} (h : recordFault r.ep r.o.ps = 0) (h2 : ¬ 0 < r.ep) (h3 : applyErr s r.o.ps ≠ 0) : replayGo (r :: L) s ep = (⟨#[]⟩, 0, applyErr s r.o.ps) := by
  rw [replayGo, if_neg (by simpa using h), if_neg h2, if_pos h3]
theorem replay_op {r : RecV} {L : List RecV} {s : ByteArray} {ep : Int} (h : recordFault r.ep r.o.ps = 0) (h2 : ¬ 0 < r.ep) (h3 : applyErr s r.o.ps = 0) : replayGo (r :: L) s ep = replayGo L (applyText s r.o.ps) ep := by
  rw [replayGo, if_neg (by simpa using h), if_neg h2, if_neg (by simpa using h3)]
theorem applyText_size {s : ByteArray} {ps : List PartD} : (applyText s ps).size ≤ 16000 := by
  unfold applyText
  by_cases h : applyErr s ps = 0
  · rw [if_pos h]
    have ho : opFault ps = 0 := by
      rcases Classical.em (opFault ps = 0) with q | q
      · exact q
      · exfalso
        unfold applyErr at h
        by_cases h1 : textFault s ≠ 0
        · rw [if_pos h1] at h
          exact h1 h
        · rw [if_neg h1, if_pos q] at h
          exact q h
    have a1 := runesBytes_size_le (appRunes (runesOf s) ps 0)
    have a2 := appRunes_length (runesOf s) ps 0
    have a3 := (op_from ho).2.2.2
    omega
  · rw [if_neg h]
    decide
theorem record_range {ep : Int} {ps : List PartD} (h : recordFault ep ps = 0) : 0 ≤ ep ∧ ep ≤ 1048576 := by
  rcases Classical.em (ep < 0 ∨ 1048576 < ep) with q | q
  · unfold recordFault at h
    rw [if_pos q] at h
    cases h
  · omega
theorem max_if (a b : Int) : max a b = if a < b then b else a := by
  by_cases h : a < b
  · rw [if_pos h]; omega
  · rw [if_neg h]; omega
set_option maxHeartbeats 2000000 in
theorem Replay_c (w : World) (A : Option Addr) (c : Nat) (L : List RecV) (hT : Tabs w) (hs : RecsIn w A L) (hm : L.length ≤ 1048576) (hp : ∀ r ∈ L, r.o.Small) :
    Calls Tryd.prog 33 #[.slice A L.length c] w fun e w' => e = .returned (.tuple #[.string (replayGo L ⟨#[]⟩ 0).1, .int .i64 (replayGo L ⟨#[]⟩ 0).2.1, .int .i64 (replayGo L ⟨#[]⟩ 0).2.2]) ∧ Below w.heap.size w w' := by
  have HD0 := Lib.hid (show replayGo (L.drop 0) ⟨#[]⟩ 0 = replayGo L ⟨#[]⟩ 0 by simp)
  have HP := Lib.hid hp
  have HS := Lib.hid hs
  have HT := Lib.hid hT
  generalize replayGo L ⟨#[]⟩ 0 = R at *
  obtain ⟨R1, R2, R3⟩ := R
  dsimp only at *
  clear hp hs hT
  go_enter Tryd.func33, Tryd.ntmps33
  go_wp2_with fail
  go_loopw [5, 6, 14] (fun s_ e_ i wr => ∃ (k : Nat) (s : ByteArray) (ep : Int), k ≤ L.length ∧ i = .int .i64 k ∧ s_ = .string s ∧ e_ = .int .i64 ep ∧ s.size ≤ 16000 ∧ (0 ≤ ep ∧ ep ≤ 1048576) ∧ Hid (replayGo (L.drop k) s ep = (R1, R2, R3)) ∧ Below w.heap.size w wr)
    (fun _ _ i _ => L.length - (intOf i).toNat)
  case atStart => exact ⟨0, ⟨#[]⟩, 0, Nat.zero_le _, rfl, rfl, rfl, by decide, by omega, HD0, Below.refl _ _⟩
  case round =>
    obtain ⟨k, s, ep, hk, rfl, rfl, rfl, hsz, ⟨he1, he2⟩, hd, hbw⟩ := hrel
    by_cases hlt : k < L.length
    · obtain ⟨b, o, rfl, hbs, g0, g1, hop⟩ := RecsIn.at_ (HS.out.later hbw) hlt
      obtain ⟨hol, hot⟩ := HP.out _ (List.getElem_mem hlt)
      have HD := Lib.hid (show replayGo (L[k] :: L.drop (k + 1)) s ep = (R1, R2, R3) by rw [← List.drop_eq_getElem_cons hlt]; exact hd.out)
      clear hd
      generalize L[k] = x at *
      obtain ⟨re, ⟨rA, rc, ps⟩⟩ := x
      dsimp only at *
      have HC := Lib.hid (fun W hT hs => CheckRecord_c W re rA rc ps hT hs hol hot)
      by_cases hf : recordFault re ps = 0
      · obtain ⟨hr1, hr2⟩ := record_range hf
        rw [hf] at HC
        by_cases hep : 0 < re
        · have HE := Lib.hid (show replayGo (L.drop (k + 1)) s (if ep < re then re else ep) = (R1, R2, R3) by rw [← HD.out]; exact (replay_ep (r := ⟨re, ⟨rA, rc, ps⟩⟩) hf hep).symm)
          clear hf
          go_wp2_with fail
          refine (HC.out _ ((HT.out.later hbw).later (bAlloc (Below.refl _ _) _)) (Sl.later hop (bAlloc (Below.refl _ _) _))).mono ?_
          rintro e w1 ⟨rfl, hb1⟩
          have x0 := box_at' hb1 0
          have x1 := box_at' hb1 1
          simp at x0 x1
          have HB1 := Lib.hid (bThen hbw (box_below' hb1))
          clear hb1
          go_wp2_with fail
          go_roundw
          case rel => exact ⟨k + 1, s, if ep < re then re else ep, by omega, by go_num, rfl, by rw [max_if], hsz, by split <;> omega, HE, HB1.out⟩
          case measure => simp [intOf]; omega
        · obtain rfl : re = 0 := by omega
          have ha := fun W hT hs => Apply_c W s rA rc ps hT hs hol hot (by omega)
          unfold RetApply at ha
          have HZ := Lib.hid (applyText_size (s := s) (ps := ps))
          by_cases haz : applyErr s ps = 0
          · have HE := Lib.hid (show replayGo (L.drop (k + 1)) (applyText s ps) ep = (R1, R2, R3) by rw [← HD.out]; exact (replay_op (r := ⟨0, ⟨rA, rc, ps⟩⟩) hf (by simp) haz).symm)
            rw [haz] at ha
            have HA := Lib.hid ha
            clear hf haz ha
            generalize applyText s ps = s' at *
            go_wp2_with fail
            refine (HC.out _ ((HT.out.later hbw).later (bAlloc (Below.refl _ _) _)) (Sl.later hop (bAlloc (Below.refl _ _) _))).mono ?_
            rintro e w1 ⟨rfl, hb1⟩
            have x0 := box_at' hb1 0
            have x1 := box_at' hb1 1
            simp at x0 x1
            have HB1 := Lib.hid (bThen hbw (box_below' hb1))
            have HO1 := Lib.hid (Sl.later hop (box_below' hb1))
            clear hb1
            go_wp2_with fail
            refine (HA.out _ (HT.out.later HB1.out) HO1.out).mono ?_
            rintro e w2 ⟨rfl, hb2⟩
            go_wp2_with fail
            go_roundw
            case rel => exact ⟨k + 1, s', ep, by omega, by go_num, rfl, rfl, HZ.out, ⟨he1, he2⟩, HE, bThen HB1.out hb2⟩
            case measure => simp [intOf]; omega
          · have HE := Lib.hid (show ((⟨#[]⟩ : ByteArray), (0 : Int), applyErr s ps) = (R1, R2, R3) by rw [← HD.out]; exact (replay_no (r := ⟨0, ⟨rA, rc, ps⟩⟩) hf (by simp) haz).symm)
            have hb0 : (applyErr s ps != 0) = true := by simpa using haz
            have HA := Lib.hid ha
            clear hf haz ha
            generalize applyErr s ps = z at *
            go_wp2_with fail
            refine (HC.out _ ((HT.out.later hbw).later (bAlloc (Below.refl _ _) _)) (Sl.later hop (bAlloc (Below.refl _ _) _))).mono ?_
            rintro e w1 ⟨rfl, hb1⟩
            have x0 := box_at' hb1 0
            have x1 := box_at' hb1 1
            simp at x0 x1
            have HB1 := Lib.hid (bThen hbw (box_below' hb1))
            have HO1 := Lib.hid (Sl.later hop (box_below' hb1))
            clear hb1
            go_wp2_with fail
            refine (HA.out _ (HT.out.later HB1.out) HO1.out).mono ?_
            rintro e w2 ⟨rfl, hb2⟩
            go_wp2_with fail
            go_ret3
            have h3 := HE.out
            simp only [Prod.mk.injEq] at h3
            obtain ⟨rfl, rfl, rfl⟩ := h3
            exact ⟨rfl, bThen HB1.out hb2⟩
      · have HE := Lib.hid (show ((⟨#[]⟩ : ByteArray), (0 : Int), recordFault re ps) = (R1, R2, R3) by rw [← HD.out]; exact (replay_bad (r := ⟨re, ⟨rA, rc, ps⟩⟩) hf).symm)
        have hb0 : (recordFault re ps != 0) = true := by simpa using hf
        clear hf
        generalize recordFault re ps = z at *
        go_wp2_with fail
        refine (HC.out _ ((HT.out.later hbw).later (bAlloc (Below.refl _ _) _)) (Sl.later hop (bAlloc (Below.refl _ _) _))).mono ?_
        rintro e w1 ⟨rfl, hb1⟩
        go_wp2_with fail
        go_ret3
        have h3 := HE.out
        simp only [Prod.mk.injEq] at h3
        obtain ⟨rfl, rfl, rfl⟩ := h3
        exact ⟨rfl, bThen hbw (box_below' hb1)⟩
    · obtain rfl : k = L.length := by omega
      have h3 : (s, ep, (0 : Int)) = (R1, R2, R3) := by have := hd.out; rwa [List.drop_length] at this
      simp only [Prod.mk.injEq] at h3
      obtain ⟨rfl, rfl, rfl⟩ := h3
      go_wp2_with fail
      go_ret3
      exact ⟨rfl, hbw⟩
set_option maxHeartbeats 2000000 in
theorem ReplayedOf_c (w : World) (A : Option Addr) (c : Nat) (L : List RecV) (hT : Tabs w) (hs : RecsIn w A L) (hm : L.length ≤ 1048576) (hp : ∀ r ∈ L, r.o.Small) :
    Calls Tryd.prog 34 #[.slice A L.length c] w fun e w' => e = .returned (.tuple #[.string (replayGo L ⟨#[]⟩ 0).1, .int .i64 (replayGo L ⟨#[]⟩ 0).2.1, .int .i64 (replayGo L ⟨#[]⟩ 0).2.2]) ∧ Below w.heap.size w w' := by
  have HD0 := Lib.hid (show replayGo (L.drop 0) ⟨#[]⟩ 0 = replayGo L ⟨#[]⟩ 0 by simp)
  have HP := Lib.hid hp
  have HS := Lib.hid hs
  have HT := Lib.hid hT
  generalize replayGo L ⟨#[]⟩ 0 = R at *
  obtain ⟨R1, R2, R3⟩ := R
  dsimp only at *
  clear hp hs hT
  go_enter Tryd.func34, Tryd.ntmps34
  go_wp2_with fail
  go_loopw [5, 6, 7, 8] (fun s_ e_ i _ wr => ∃ (k : Nat) (s : ByteArray) (ep : Int), k ≤ L.length ∧ i = .int .i64 k ∧ s_ = .string s ∧ e_ = .int .i64 ep ∧ s.size ≤ 16000 ∧ (0 ≤ ep ∧ ep ≤ 1048576) ∧ Hid (replayGo (L.drop k) s ep = (R1, R2, R3)) ∧ Below w.heap.size w wr)
    (fun _ _ i _ _ => L.length - (intOf i).toNat)
  case atStart => exact ⟨0, ⟨#[]⟩, 0, Nat.zero_le _, rfl, rfl, rfl, by decide, by omega, HD0, Below.refl _ _⟩
  case round =>
    obtain ⟨k, s, ep, hk, rfl, rfl, rfl, hsz, ⟨he1, he2⟩, hd, hbw⟩ := hrel
    by_cases hlt : k < L.length
    · obtain ⟨b, o, rfl, hbs, g0, g1, hop⟩ := RecsIn.at_ (HS.out.later hbw) hlt
      obtain ⟨hol, hot⟩ := HP.out _ (List.getElem_mem hlt)
      have HD := Lib.hid (show replayGo (L[k] :: L.drop (k + 1)) s ep = (R1, R2, R3) by rw [← List.drop_eq_getElem_cons hlt]; exact hd.out)
      clear hd
      generalize L[k] = x at *
      obtain ⟨re, ⟨rA, rc, ps⟩⟩ := x
      dsimp only at *
      have HC := Lib.hid (fun W hT hs => RecordFault_c W re rA rc ps hT hs hol hot)
      by_cases hf : recordFault re ps = 0
      · obtain ⟨hr1, hr2⟩ := record_range hf
        rw [hf] at HC
        by_cases hep : 0 < re
        · have HE := Lib.hid (show replayGo (L.drop (k + 1)) s (if ep < re then re else ep) = (R1, R2, R3) by rw [← HD.out]; exact (replay_ep (r := ⟨re, ⟨rA, rc, ps⟩⟩) hf hep).symm)
          clear hf
          by_cases hmx : ep < re
          · rw [if_pos hmx] at HE
            go_wp2_with fail
            refine (HC.out _ (HT.out.later hbw) hop).mono ?_
            rintro e w1 ⟨rfl, hb1⟩
            have x0 := (hb1.cell (p := ⟨b, o + k * 2, none⟩) hbs).trans g0
            have HB1 := Lib.hid (bThen hbw hb1)
            clear hb1
            go_wp2_with fail
            go_roundw
            case rel => exact ⟨k + 1, s, re, by omega, by go_num, rfl, rfl, hsz, ⟨by omega, by omega⟩, HE, HB1.out⟩
            case measure => simp [intOf]; omega
          · rw [if_neg hmx] at HE
            have hmx2 : decide (ep < re) = false := by simpa using hmx
            clear hmx
            go_wp2_with fail
            refine (HC.out _ (HT.out.later hbw) hop).mono ?_
            rintro e w1 ⟨rfl, hb1⟩
            have x0 := (hb1.cell (p := ⟨b, o + k * 2, none⟩) hbs).trans g0
            have HB1 := Lib.hid (bThen hbw hb1)
            clear hb1
            go_wp2_with fail
            go_roundw
            case rel => exact ⟨k + 1, s, ep, by omega, by go_num, rfl, rfl, hsz, ⟨he1, he2⟩, HE, HB1.out⟩
            case measure => simp [intOf]; omega
        · obtain rfl : re = 0 := by omega
          have hmx2 : decide (ep < 0) = false := by simpa using he1
          have ha := fun W hT hs => Applied_c W s rA rc ps hT hs hol hot (by omega)
          unfold RetApply at ha
          have HZ := Lib.hid (applyText_size (s := s) (ps := ps))
          by_cases haz : applyErr s ps = 0
          · have HE := Lib.hid (show replayGo (L.drop (k + 1)) (applyText s ps) ep = (R1, R2, R3) by rw [← HD.out]; exact (replay_op (r := ⟨0, ⟨rA, rc, ps⟩⟩) hf (by simp) haz).symm)
            rw [haz] at ha
            have HA := Lib.hid ha
            clear hf haz ha
            generalize applyText s ps = s' at *
            go_wp2_with fail
            refine (HC.out _ (HT.out.later hbw) hop).mono ?_
            rintro e w1 ⟨rfl, hb1⟩
            have x0 := (hb1.cell (p := ⟨b, o + k * 2, none⟩) hbs).trans g0
            have x1 := (hb1.cell (p := ⟨b, o + k * 2 + 1, none⟩) hbs).trans g1
            have HB1 := Lib.hid (bThen hbw hb1)
            have HO1 := Lib.hid (Sl.later hop hb1)
            clear hb1
            go_wp2_with fail
            refine (HA.out _ (HT.out.later HB1.out) HO1.out).mono ?_
            rintro e w2 ⟨rfl, hb2⟩
            go_wp2_with fail
            go_roundw
            case rel => exact ⟨k + 1, s', ep, by omega, by go_num, rfl, rfl, HZ.out, ⟨he1, he2⟩, HE, bThen HB1.out hb2⟩
            case measure => simp [intOf]; omega
          · have HE := Lib.hid (show ((⟨#[]⟩ : ByteArray), (0 : Int), applyErr s ps) = (R1, R2, R3) by rw [← HD.out]; exact (replay_no (r := ⟨0, ⟨rA, rc, ps⟩⟩) hf (by simp) haz).symm)
            have hb0 : (applyErr s ps != 0) = true := by simpa using haz
            have HA := Lib.hid ha
            clear hf haz ha
            generalize applyErr s ps = z at *
            go_wp2_with fail
            refine (HC.out _ (HT.out.later hbw) hop).mono ?_
            rintro e w1 ⟨rfl, hb1⟩
            have x0 := (hb1.cell (p := ⟨b, o + k * 2, none⟩) hbs).trans g0
            have x1 := (hb1.cell (p := ⟨b, o + k * 2 + 1, none⟩) hbs).trans g1
            have HB1 := Lib.hid (bThen hbw hb1)
            have HO1 := Lib.hid (Sl.later hop hb1)
            clear hb1
            go_wp2_with fail
            refine (HA.out _ (HT.out.later HB1.out) HO1.out).mono ?_
            rintro e w2 ⟨rfl, hb2⟩
            go_wp2_with fail
            go_ret3
            have h3 := HE.out
            simp only [Prod.mk.injEq] at h3
            obtain ⟨rfl, rfl, rfl⟩ := h3
            exact ⟨rfl, bThen HB1.out hb2⟩
      · have HE := Lib.hid (show ((⟨#[]⟩ : ByteArray), (0 : Int), recordFault re ps) = (R1, R2, R3) by rw [← HD.out]; exact (replay_bad (r := ⟨re, ⟨rA, rc, ps⟩⟩) hf).symm)
        have hb0 : (recordFault re ps != 0) = true := by simpa using hf
        clear hf
        generalize recordFault re ps = z at *
        go_wp2_with fail
        refine (HC.out _ (HT.out.later hbw) hop).mono ?_
        rintro e w1 ⟨rfl, hb1⟩
        go_wp2_with fail
        go_ret3
        have h3 := HE.out
        simp only [Prod.mk.injEq] at h3
        obtain ⟨rfl, rfl, rfl⟩ := h3
        exact ⟨rfl, bThen hbw hb1⟩
    · obtain rfl : k = L.length := by omega
      have h3 : (s, ep, (0 : Int)) = (R1, R2, R3) := by have := hd.out; rwa [List.drop_length] at this
      simp only [Prod.mk.injEq] at h3
      obtain ⟨rfl, rfl, rfl⟩ := h3
      go_wp2_with fail
      go_ret3
      exact ⟨rfl, hbw⟩
end Go.Proofs.YtkelmppfijgecaaDoor
