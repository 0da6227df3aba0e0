/-
  Contracts of text.Check and its reference OpFault: both give opFault.
-/
import Derived.Test.YtbmdepbmejnlkaaDoorRows
import Derived.Test.YtbmdepbmejnlkaaDoorOps
import Derived.Test.YtbmdepbmejnlkaaDoorLens
import Derived.Test.YtbmdepbmejnlkaaDoorText
import Derived.Test.YtbmdepbmejnlkaaDoorPart
namespace Go.Proofs.YtbmdepbmejnlkaaDoor
open Go.ChangeShapes Go.WideShapes Go.ChangeAt Go.RowKit
set_option maxRecDepth 100000
/-- Two parts that may not stand one behind the other. -/
def clash (q p : PartD) : Bool := q.kind == p.kind || (q.kind == 3 && p.kind == 2)
/-- What the i'th part is refused for. -/
def badAt (ps : List PartD) (i : Nat) : Int :=
  match ps[i]? with
  | none => 0
  | some p => if partFault p ≠ 0 then partFault p else match i with
    | 0 => 0
    | j + 1 => match ps[j]? with
      | none => 0
      | some q => if clash q p then 4 else 0
/-- What an operation is refused for. -/
def opFault (ps : List PartD) : Int :=
  if 8001 < ps.length then 1 else match ((List.range ps.length).map (badAt ps)).find? (· ≠ 0) with
    | some e => e
    | none => if 4000 < (lens ps).1 ∨ 4000 < (lens ps).2 then 1 else 0
theorem opFault_long {ps : List PartD} (h : 8001 < ps.length) : opFault ps = 1 := if_pos h
theorem find_first {l : List Int} {k : Nat} (hk : k < l.length) (h : ∀ i (hi : i < k), l[i]'(Nat.lt_trans hi hk) = 0) (hb : l[k] ≠ 0) : l.find? (· ≠ 0) = some l[k] := by
  induction l generalizing k with
  | nil => exact absurd hk (by simp)
  | cons x l ih =>
    cases k with
    | zero =>
      have hb' : ¬ x = 0 := by simpa using hb
      simp [hb']
    | succ k =>
      have h0 : x = 0 := h 0 (by omega)
      rw [List.find?_cons]
      simp only [h0, ne_eq, not_true_eq_false, decide_false]
      exact ih (by simpa using hk) (fun i hi => h (i + 1) (by omega)) hb
theorem opFault_bad {ps : List PartD} (h : ¬ 8001 < ps.length) {k : Nat} (hk : k < ps.length) (hg : ∀ i, i < k → badAt ps i = 0) (hb : badAt ps k ≠ 0) : opFault ps = badAt ps k := by
  unfold opFault
  rw [if_neg h, find_first (l := (List.range ps.length).map (badAt ps)) (k := k) (by simpa using hk) (fun i hi => by simpa using hg i hi) (by simpa using hb)]
  simp
theorem opFault_good {ps : List PartD} (h : ¬ 8001 < ps.length) (hg : ∀ i, i < ps.length → badAt ps i = 0) : opFault ps = if 4000 < (lens ps).1 ∨ 4000 < (lens ps).2 then 1 else 0 := by
  unfold opFault
  rw [if_neg h, List.find?_eq_none.2]
  intro x hx
  obtain ⟨i, hi, rfl⟩ := List.mem_map.1 hx
  simpa using hg i (List.mem_range.1 hi)
theorem badAt_part {ps : List PartD} {k : Nat} (hk : k < ps.length) (h : partFault ps[k] ≠ 0) : badAt ps k = partFault ps[k] := by
  unfold badAt
  rw [List.getElem?_eq_getElem hk]
  simp [h]
theorem badAt_zero {ps : List PartD} (hk : 0 < ps.length) (h : partFault ps[0] = 0) : badAt ps 0 = 0 := by
  unfold badAt
  rw [List.getElem?_eq_getElem hk]
  simp [h]
theorem badAt_succ {ps : List PartD} {j : Nat} (hk : j + 1 < ps.length) (h : partFault ps[j + 1] = 0) : badAt ps (j + 1) = if clash ps[j] ps[j + 1] then 4 else 0 := by
  unfold badAt
  rw [List.getElem?_eq_getElem hk]
  simp [h, List.getElem?_eq_getElem (show j < ps.length by omega)]
set_option maxHeartbeats 2000000 in
theorem Check_c (w : World) (A : Option Addr) (c : Nat) (ps : List PartD) (hT : Tabs w) (hs : OpIn (· < w.heap.size) w A ps) (hm : ps.length ≤ 1048576) (ht : ∀ p ∈ ps, p.text.size ≤ 1048576) :
    Calls Tryd.prog 46 #[.slice A ps.length c] w fun e w' => e = .returned (.int .i64 (opFault ps)) ∧ Below w.heap.size w w' := by
  by_cases h8 : 8001 < ps.length
  · have HF := Lib.hid (opFault_long h8)
    have hd : decide ((8001 : Int) < (ps.length : Int)) = true := by simp; omega
    go_enter Tryd.func46, Tryd.ntmps46
    go_wp2_with fail
    go_ret
    exact ⟨by rw [HF.out]; rfl, (by repeat (first | exact Below.refl _ _ | apply bGrow | apply bAlloc | apply Below.drew | apply bDrewN | apply bIter))⟩
  have hd : decide ((8001 : Int) < (ps.length : Int)) = false := by simp; omega
  have HTX := Lib.hid ht
  have HT := Lib.hid hT
  have HS := Lib.hid hs
  clear ht hT
  go_enter Tryd.func46, Tryd.ntmps46
  go_wp2_with fail
  go_loopw [2, 3, 4, 13] (fun r _ _ i wr => ∃ (k : Nat), k ≤ ps.length ∧ i = .int .i64 k ∧ r = .int .i64 0 ∧ Hid (∀ i, i < k → badAt ps i = 0) ∧ Below w.heap.size w wr)
    (fun _ _ _ i _ => ps.length - (intOf i).toNat)
  case atStart => exact ⟨0, Nat.zero_le _, rfl, rfl, fun i hi => absurd hi (by omega), Below.refl _ _⟩
  case round =>
    obtain ⟨k, hk, rfl, rfl, hok, hbw⟩ := hrel
    by_cases hlt : k < ps.length
    · obtain ⟨b, o, rfl, hbs, h0, h1, h2⟩ := OpIn.at_ (ps := ps) (Sl.later hs hbw) hlt
      have htx : ps[k].text.size ≤ 1048576 := HTX.out _ (List.getElem_mem hlt)
      have hpc := part_c ps[k].kind ps[k].n ps[k].text
      by_cases hpf : partFault ps[k] = 0
      · have hpe : partFault ⟨ps[k].kind, ps[k].n, ps[k].text⟩ = 0 := hpf
        rw [hpe] at hpc
        have HP := Lib.hid hpc
        clear hpe hpc
        by_cases hk0 : k = 0
        · subst hk0
          have hr : Hid (∀ i, i < 0 + 1 → badAt ps i = 0) := fun i hi => by
            obtain rfl : i = 0 := by omega
            exact badAt_zero hlt hpf
          generalize ps[0] = p at *
          obtain ⟨kd, pn, tx⟩ := p
          simp only [Nat.zero_mul, Nat.add_zero] at h0 h1 h2
          dsimp only at *
          clear hpf
          go_wp2_with fail
          refine (HP.out _ (HT.out.later (by repeat (first | exact hbw | exact Below.refl _ _ | apply bGrow | apply bAlloc | apply Below.drew | apply bDrewN | apply bIter))) htx).mono ?_
          rintro e w1 ⟨rfl, hb1⟩
          obtain ⟨⟨d1, os1⟩, rfl⟩ := beyond_of hb1
          go_wp2_with fail
          go_quiet (fail)
          go_wp2_with fail
          go_roundw
          case rel => exact ⟨1, by omega, by go_num, rfl, hr, (by repeat (first | exact hbw | exact Below.refl _ _ | apply bGrow | apply bAlloc | apply Below.drew | apply bDrewN | apply bIter))⟩
          case measure => simp [intOf]; omega
        · obtain ⟨j, rfl⟩ : ∃ j, k = j + 1 := ⟨k - 1, by omega⟩
          obtain ⟨b', o', hbo, _, g0, _, _⟩ := OpIn.at_ (ps := ps) (k := j) (Sl.later hs hbw) (by omega)
          injection hbo with hbo
          injection hbo with e1 e2
          subst e1 e2
          have hba := badAt_succ hlt hpf
          have hle : j + 1 ≤ 1048576 := by omega
          by_cases hcl : clash ps[j] ps[j + 1] = true
          · rw [if_pos hcl] at hba
            have HF := Lib.hid ((opFault_bad h8 hlt hok.out (by rw [hba]; decide)).trans hba)
            clear hba
            generalize ps[j] = q at *
            generalize ps[j + 1] = p at *
            obtain ⟨kd, pn, tx⟩ := p
            obtain ⟨kq, qn, tq⟩ := q
            simp only [clash] at hcl
            dsimp only at *
            clear hpf
            by_cases f1 : kq = kd
            · subst f1
              clear hcl
              go_wp2_with fail
              refine (HP.out _ (HT.out.later (by repeat (first | exact hbw | exact Below.refl _ _ | apply bGrow | apply bAlloc | apply Below.drew | apply bDrewN | apply bIter))) htx).mono ?_
              rintro e w1 ⟨rfl, hb1⟩
              obtain ⟨⟨d1, os1⟩, rfl⟩ := beyond_of hb1
              go_wp2_with fail
              go_quiet (fail)
              go_wp2_with fail
              go_ret
              exact ⟨by rw [HF.out]; rfl, (by repeat (first | exact hbw | exact Below.refl _ _ | apply bGrow | apply bAlloc | apply Below.drew | apply bDrewN | apply bIter))⟩
            · have h32 : kq = 3 ∧ kd = 2 := by
                have f1' : (kq == kd) = false := by simpa using f1
                rw [f1'] at hcl
                simpa using hcl
              obtain ⟨rfl, rfl⟩ := h32
              clear hcl f1
              go_wp2_with fail
              refine (HP.out _ (HT.out.later (by repeat (first | exact hbw | exact Below.refl _ _ | apply bGrow | apply bAlloc | apply Below.drew | apply bDrewN | apply bIter))) htx).mono ?_
              rintro e w1 ⟨rfl, hb1⟩
              obtain ⟨⟨d1, os1⟩, rfl⟩ := beyond_of hb1
              go_wp2_with fail
              go_quiet (fail)
              go_wp2_with fail
              go_ret
              exact ⟨by rw [HF.out]; rfl, (by repeat (first | exact hbw | exact Below.refl _ _ | apply bGrow | apply bAlloc | apply Below.drew | apply bDrewN | apply bIter))⟩
          · rw [if_neg hcl] at hba
            have hr : Hid (∀ i, i < j + 1 + 1 → badAt ps i = 0) := fun i hi => by
              rcases Nat.lt_or_ge i (j + 1) with h | h
              · exact hok.out i h
              · obtain rfl : i = j + 1 := by omega
                exact hba
            clear hba
            generalize ps[j] = q at *
            generalize ps[j + 1] = p at *
            obtain ⟨kd, pn, tx⟩ := p
            obtain ⟨kq, qn, tq⟩ := q
            simp only [clash] at hcl
            dsimp only at *
            have f1 : (kq == kd) = false := by revert hcl; cases (kq == kd) <;> simp
            clear hpf
            by_cases hq3 : kq = 3
            · subst hq3
              have f2 : (kd == 2) = false := by revert hcl; cases (kd == 2) <;> simp
              clear hcl
              go_wp2_with fail
              refine (HP.out _ (HT.out.later (by repeat (first | exact hbw | exact Below.refl _ _ | apply bGrow | apply bAlloc | apply Below.drew | apply bDrewN | apply bIter))) htx).mono ?_
              rintro e w1 ⟨rfl, hb1⟩
              obtain ⟨⟨d1, os1⟩, rfl⟩ := beyond_of hb1
              go_wp2_with fail
              go_quiet (fail)
              go_wp2_with fail
              go_roundw
              case rel => exact ⟨j + 1 + 1, by omega, by go_num, rfl, hr, (by repeat (first | exact hbw | exact Below.refl _ _ | apply bGrow | apply bAlloc | apply Below.drew | apply bDrewN | apply bIter))⟩
              case measure => simp [intOf]; omega
            · have f3 : (kq == 3) = false := by simpa using hq3
              clear hcl hq3
              go_wp2_with fail
              refine (HP.out _ (HT.out.later (by repeat (first | exact hbw | exact Below.refl _ _ | apply bGrow | apply bAlloc | apply Below.drew | apply bDrewN | apply bIter))) htx).mono ?_
              rintro e w1 ⟨rfl, hb1⟩
              obtain ⟨⟨d1, os1⟩, rfl⟩ := beyond_of hb1
              go_wp2_with fail
              go_quiet (fail)
              go_wp2_with fail
              go_roundw
              case rel => exact ⟨j + 1 + 1, by omega, by go_num, rfl, hr, (by repeat (first | exact hbw | exact Below.refl _ _ | apply bGrow | apply bAlloc | apply Below.drew | apply bDrewN | apply bIter))⟩
              case measure => simp [intOf]; omega
      · have HF := Lib.hid ((opFault_bad h8 hlt hok.out (by rw [badAt_part hlt hpf]; exact hpf)).trans (badAt_part hlt hpf))
        have hpe : partFault ⟨ps[k].kind, ps[k].n, ps[k].text⟩ = partFault ps[k] := rfl
        rw [hpe] at hpc
        have hb0 : (partFault ps[k] != 0) = true := by simpa using hpf
        clear hpe
        generalize partFault ps[k] = x at *
        generalize ps[k] = p at *
        obtain ⟨kd, pn, tx⟩ := p
        dsimp only at *
        have HP := Lib.hid hpc
        clear hpc hpf
        go_wp2_with fail
        refine (HP.out _ (HT.out.later (by repeat (first | exact hbw | exact Below.refl _ _ | apply bGrow | apply bAlloc | apply Below.drew | apply bDrewN | apply bIter))) htx).mono ?_
        rintro e w1 ⟨rfl, hb1⟩
        obtain ⟨⟨d1, os1⟩, rfl⟩ := beyond_of hb1
        go_wp2_with fail
        go_ret
        exact ⟨by rw [HF.out]; rfl, (by repeat (first | exact hbw | exact Below.refl _ _ | apply bGrow | apply bAlloc | apply Below.drew | apply bDrewN | apply bIter))⟩
    · obtain rfl : k = ps.length := by omega
      have HG := Lib.hid (opFault_good h8 hok.out)
      have HL := Lib.hid (Lengths_c wr A c ps (Sl.later hs hbw) hm HTX.out)
      clear hd
      go_wp2_with fail
      refine HL.out.mono ?_
      rintro e w1 ⟨rfl, hb1⟩
      obtain ⟨⟨d1, os1⟩, rfl⟩ := beyond_of hb1
      by_cases hf : 4000 < (lens ps).1
      · have HF := Lib.hid (HG.out.trans (if_pos (.inl hf)))
        generalize lens ps = l at *
        obtain ⟨f, t⟩ := l
        dsimp only at *
        have hd1 : decide (4000 < f) = true := by simpa using hf
        go_wp2_with fail
        go_ret
        exact ⟨by rw [HF.out]; rfl, (by repeat (first | exact hbw | exact Below.refl _ _ | apply bGrow | apply bAlloc | apply Below.drew | apply bDrewN | apply bIter))⟩
      · by_cases hg : 4000 < (lens ps).2
        · have HF := Lib.hid (HG.out.trans (if_pos (.inr hg)))
          generalize lens ps = l at *
          obtain ⟨f, t⟩ := l
          dsimp only at *
          have hd1 : decide (4000 < f) = false := by simpa using hf
          have hd2 : decide (4000 < t) = true := by simpa using hg
          go_wp2_with fail
          go_ret
          exact ⟨by rw [HF.out]; rfl, (by repeat (first | exact hbw | exact Below.refl _ _ | apply bGrow | apply bAlloc | apply Below.drew | apply bDrewN | apply bIter))⟩
        · have HF := Lib.hid (HG.out.trans (if_neg (by omega)))
          generalize lens ps = l at *
          obtain ⟨f, t⟩ := l
          dsimp only at *
          have hd1 : decide (4000 < f) = false := by simpa using hf
          have hd2 : decide (4000 < t) = false := by simpa using hg
          go_wp2_with fail
          go_ret
          exact ⟨by rw [HF.out]; rfl, (by repeat (first | exact hbw | exact Below.refl _ _ | apply bGrow | apply bAlloc | apply Below.drew | apply bDrewN | apply bIter))⟩
set_option maxHeartbeats 2000000 in
theorem OpFault_c (w : World) (A : Option Addr) (c : Nat) (ps : List PartD) (hT : Tabs w) (hs : OpIn (· < w.heap.size) w A ps) (hm : ps.length ≤ 1048576) (ht : ∀ p ∈ ps, p.text.size ≤ 1048576) :
    Calls Tryd.prog 36 #[.slice A ps.length c] w fun e w' => e = .returned (.int .i64 (opFault ps)) ∧ Below w.heap.size w w' := by
  by_cases h8 : 8001 < ps.length
  · have HF := Lib.hid (opFault_long h8)
    have hd : decide ((8001 : Int) < (ps.length : Int)) = true := by simp; omega
    go_enter Tryd.func36, Tryd.ntmps36
    go_wp2_with fail
    go_ret
    exact ⟨by rw [HF.out]; rfl, (by repeat (first | exact Below.refl _ _ | apply bGrow | apply bAlloc | apply Below.drew | apply bDrewN | apply bIter))⟩
  have hd : decide ((8001 : Int) < (ps.length : Int)) = false := by simp; omega
  have HTX := Lib.hid ht
  have HT := Lib.hid hT
  have HS := Lib.hid hs
  clear ht hT
  go_enter Tryd.func36, Tryd.ntmps36
  go_wp2_with fail
  go_loopw [2, 3] (fun r i wr => ∃ (k : Nat), k ≤ ps.length ∧ i = .int .i64 k ∧ r = .int .i64 0 ∧ Hid (∀ i, i < k → badAt ps i = 0) ∧ Below w.heap.size w wr)
    (fun _ i _ => ps.length - (intOf i).toNat)
  case atStart => exact ⟨0, Nat.zero_le _, rfl, rfl, fun i hi => absurd hi (by omega), Below.refl _ _⟩
  case round =>
    obtain ⟨k, hk, rfl, rfl, hok, hbw⟩ := hrel
    by_cases hlt : k < ps.length
    · obtain ⟨b, o, rfl, hbs, h0, h1, h2⟩ := OpIn.at_ (ps := ps) (Sl.later hs hbw) hlt
      have htx : ps[k].text.size ≤ 1048576 := HTX.out _ (List.getElem_mem hlt)
      have hpc := partFault_c ps[k].kind ps[k].n ps[k].text
      by_cases hpf : partFault ps[k] = 0
      · have hpe : partFault ⟨ps[k].kind, ps[k].n, ps[k].text⟩ = 0 := hpf
        rw [hpe] at hpc
        have HP := Lib.hid hpc
        clear hpe hpc
        by_cases hk0 : k = 0
        · subst hk0
          have hr : Hid (∀ i, i < 0 + 1 → badAt ps i = 0) := fun i hi => by
            obtain rfl : i = 0 := by omega
            exact badAt_zero hlt hpf
          generalize ps[0] = p at *
          obtain ⟨kd, pn, tx⟩ := p
          simp only [Nat.zero_mul, Nat.add_zero] at h0 h1 h2
          dsimp only at *
          clear hpf
          go_wp2_with fail
          refine (HP.out _ (HT.out.later (by repeat (first | exact hbw | exact Below.refl _ _ | apply bGrow | apply bAlloc | apply Below.drew | apply bDrewN | apply bIter))) htx).mono ?_
          rintro e w1 ⟨rfl, hb1⟩
          obtain ⟨⟨d1, os1⟩, rfl⟩ := beyond_of hb1
          go_wp2_with fail
          go_quiet (fail)
          go_wp2_with fail
          go_roundw
          case rel => exact ⟨1, by omega, by go_num, rfl, hr, (by repeat (first | exact hbw | exact Below.refl _ _ | apply bGrow | apply bAlloc | apply Below.drew | apply bDrewN | apply bIter))⟩
          case measure => simp [intOf]; omega
        · obtain ⟨j, rfl⟩ : ∃ j, k = j + 1 := ⟨k - 1, by omega⟩
          obtain ⟨b', o', hbo, _, g0, _, _⟩ := OpIn.at_ (ps := ps) (k := j) (Sl.later hs hbw) (by omega)
          injection hbo with hbo
          injection hbo with e1 e2
          subst e1 e2
          have hba := badAt_succ hlt hpf
          have hle : j + 1 ≤ 1048576 := by omega
          by_cases hcl : clash ps[j] ps[j + 1] = true
          · rw [if_pos hcl] at hba
            have HF := Lib.hid ((opFault_bad h8 hlt hok.out (by rw [hba]; decide)).trans hba)
            clear hba
            generalize ps[j] = q at *
            generalize ps[j + 1] = p at *
            obtain ⟨kd, pn, tx⟩ := p
            obtain ⟨kq, qn, tq⟩ := q
            simp only [clash] at hcl
            dsimp only at *
            clear hpf
            by_cases f1 : kq = kd
            · subst f1
              clear hcl
              go_wp2_with fail
              refine (HP.out _ (HT.out.later (by repeat (first | exact hbw | exact Below.refl _ _ | apply bGrow | apply bAlloc | apply Below.drew | apply bDrewN | apply bIter))) htx).mono ?_
              rintro e w1 ⟨rfl, hb1⟩
              obtain ⟨⟨d1, os1⟩, rfl⟩ := beyond_of hb1
              go_wp2_with fail
              go_quiet (fail)
              go_wp2_with fail
              go_ret
              exact ⟨by rw [HF.out]; rfl, (by repeat (first | exact hbw | exact Below.refl _ _ | apply bGrow | apply bAlloc | apply Below.drew | apply bDrewN | apply bIter))⟩
            · have h32 : kq = 3 ∧ kd = 2 := by
                have f1' : (kq == kd) = false := by simpa using f1
                rw [f1'] at hcl
                simpa using hcl
              obtain ⟨rfl, rfl⟩ := h32
              clear hcl f1
              go_wp2_with fail
              refine (HP.out _ (HT.out.later (by repeat (first | exact hbw | exact Below.refl _ _ | apply bGrow | apply bAlloc | apply Below.drew | apply bDrewN | apply bIter))) htx).mono ?_
              rintro e w1 ⟨rfl, hb1⟩
              obtain ⟨⟨d1, os1⟩, rfl⟩ := beyond_of hb1
              go_wp2_with fail
              go_quiet (fail)
              go_wp2_with fail
              go_ret
              exact ⟨by rw [HF.out]; rfl, (by repeat (first | exact hbw | exact Below.refl _ _ | apply bGrow | apply bAlloc | apply Below.drew | apply bDrewN | apply bIter))⟩
          · rw [if_neg hcl] at hba
            have hr : Hid (∀ i, i < j + 1 + 1 → badAt ps i = 0) := fun i hi => by
              rcases Nat.lt_or_ge i (j + 1) with h | h
              · exact hok.out i h
              · obtain rfl : i = j + 1 := by omega
                exact hba
            clear hba
            generalize ps[j] = q at *
            generalize ps[j + 1] = p at *
            obtain ⟨kd, pn, tx⟩ := p
            obtain ⟨kq, qn, tq⟩ := q
            simp only [clash] at hcl
            dsimp only at *
            have f0 : (kq == kd) = false := by revert hcl; cases (kq == kd) <;> simp
            have f1 : (kd == kq) = false := by simp at f0 ⊢; omega
            clear f0
            clear hpf
            by_cases hq3 : kd = 2
            · subst hq3
              have f2 : (kq == 3) = false := by revert hcl; cases (kq == 3) <;> simp
              clear hcl
              go_wp2_with fail
              refine (HP.out _ (HT.out.later (by repeat (first | exact hbw | exact Below.refl _ _ | apply bGrow | apply bAlloc | apply Below.drew | apply bDrewN | apply bIter))) htx).mono ?_
              rintro e w1 ⟨rfl, hb1⟩
              obtain ⟨⟨d1, os1⟩, rfl⟩ := beyond_of hb1
              go_wp2_with fail
              go_quiet (fail)
              go_wp2_with fail
              go_roundw
              case rel => exact ⟨j + 1 + 1, by omega, by go_num, rfl, hr, (by repeat (first | exact hbw | exact Below.refl _ _ | apply bGrow | apply bAlloc | apply Below.drew | apply bDrewN | apply bIter))⟩
              case measure => simp [intOf]; omega
            · have f3 : (kd == 2) = false := by simpa using hq3
              clear hcl hq3
              go_wp2_with fail
              refine (HP.out _ (HT.out.later (by repeat (first | exact hbw | exact Below.refl _ _ | apply bGrow | apply bAlloc | apply Below.drew | apply bDrewN | apply bIter))) htx).mono ?_
              rintro e w1 ⟨rfl, hb1⟩
              obtain ⟨⟨d1, os1⟩, rfl⟩ := beyond_of hb1
              go_wp2_with fail
              go_quiet (fail)
              go_wp2_with fail
              go_roundw
              case rel => exact ⟨j + 1 + 1, by omega, by go_num, rfl, hr, (by repeat (first | exact hbw | exact Below.refl _ _ | apply bGrow | apply bAlloc | apply Below.drew | apply bDrewN | apply bIter))⟩
              case measure => simp [intOf]; omega
      · have HF := Lib.hid ((opFault_bad h8 hlt hok.out (by rw [badAt_part hlt hpf]; exact hpf)).trans (badAt_part hlt hpf))
        have hpe : partFault ⟨ps[k].kind, ps[k].n, ps[k].text⟩ = partFault ps[k] := rfl
        rw [hpe] at hpc
        have hb0 : (partFault ps[k] != 0) = true := by simpa using hpf
        clear hpe
        generalize partFault ps[k] = x at *
        generalize ps[k] = p at *
        obtain ⟨kd, pn, tx⟩ := p
        dsimp only at *
        have HP := Lib.hid hpc
        clear hpc hpf
        go_wp2_with fail
        refine (HP.out _ (HT.out.later (by repeat (first | exact hbw | exact Below.refl _ _ | apply bGrow | apply bAlloc | apply Below.drew | apply bDrewN | apply bIter))) htx).mono ?_
        rintro e w1 ⟨rfl, hb1⟩
        obtain ⟨⟨d1, os1⟩, rfl⟩ := beyond_of hb1
        go_wp2_with fail
        go_ret
        exact ⟨by rw [HF.out]; rfl, (by repeat (first | exact hbw | exact Below.refl _ _ | apply bGrow | apply bAlloc | apply Below.drew | apply bDrewN | apply bIter))⟩
    · obtain rfl : k = ps.length := by omega
      have HG := Lib.hid (opFault_good h8 hok.out)
      have HL := Lib.hid (LengthsOf_c wr A c ps (Sl.later hs hbw) hm HTX.out)
      clear hd
      go_wp2_with fail
      refine HL.out.mono ?_
      rintro e w1 ⟨rfl, hb1⟩
      obtain ⟨⟨d1, os1⟩, rfl⟩ := beyond_of hb1
      by_cases hf : 4000 < (lens ps).1
      · have HF := Lib.hid (HG.out.trans (if_pos (.inl hf)))
        generalize lens ps = l at *
        obtain ⟨f, t⟩ := l
        dsimp only at *
        have hd1 : decide (4000 < f) = true := by simpa using hf
        go_wp2_with fail
        go_ret
        exact ⟨by rw [HF.out]; rfl, (by repeat (first | exact hbw | exact Below.refl _ _ | apply bGrow | apply bAlloc | apply Below.drew | apply bDrewN | apply bIter))⟩
      · by_cases hg : 4000 < (lens ps).2
        · have HF := Lib.hid (HG.out.trans (if_pos (.inr hg)))
          generalize lens ps = l at *
          obtain ⟨f, t⟩ := l
          dsimp only at *
          have hd1 : decide (4000 < f) = false := by simpa using hf
          have hd2 : decide (4000 < t) = true := by simpa using hg
          go_wp2_with fail
          go_ret
          exact ⟨by rw [HF.out]; rfl, (by repeat (first | exact hbw | exact Below.refl _ _ | apply bGrow | apply bAlloc | apply Below.drew | apply bDrewN | apply bIter))⟩
        · have HF := Lib.hid (HG.out.trans (if_neg (by omega)))
          generalize lens ps = l at *
          obtain ⟨f, t⟩ := l
          dsimp only at *
          have hd1 : decide (4000 < f) = false := by simpa using hf
          have hd2 : decide (4000 < t) = false := by simpa using hg
          go_wp2_with fail
          go_ret
          exact ⟨by rw [HF.out]; rfl, (by repeat (first | exact hbw | exact Below.refl _ _ | apply bGrow | apply bAlloc | apply Below.drew | apply bDrewN | apply bIter))⟩
end Go.Proofs.YtbmdepbmejnlkaaDoor
