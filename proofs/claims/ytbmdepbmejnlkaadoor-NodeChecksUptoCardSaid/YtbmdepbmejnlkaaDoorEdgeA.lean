/-
  Contracts of edge.Check and its reference EdgeMay.
-/
import Derived.Test.YtbmdepbmejnlkaaDoorRows
import Derived.Test.YtbmdepbmejnlkaaDoorOps
import Derived.Test.YtbmdepbmejnlkaaDoorLens
import Derived.Test.YtbmdepbmejnlkaaDoorText
import Derived.Test.YtbmdepbmejnlkaaDoorCheck
import Derived.Test.YtbmdepbmejnlkaaDoorIn
namespace Go.Proofs.YtbmdepbmejnlkaaDoor
open Go.ChangeShapes Go.WideShapes Go.ChangeAt Go.RowKit
set_option maxRecDepth 100000
/-- An operation as a slice's cell holds it. -/
structure OpV where
  A : Option Addr
  c : Nat
  ps : List PartD
abbrev OpV.val (o : OpV) : Value := .slice o.A o.ps.length o.c
structure OpV.Small (o : OpV) : Prop where
  len : o.ps.length ≤ 1048576
  text : ∀ p ∈ o.ps, p.text.size ≤ 1048576
/-- A row of operations, and their parts. -/
structure OpsIn (w : World) (A : Option Addr) (L : List OpV) : Prop where
  row : Sl (· < w.heap.size) w 1 A L.length (L.map OpV.val)
  each : ∀ o ∈ L, OpIn (· < w.heap.size) w o.A o.ps
theorem OpsIn.later {w w' : World} {A : Option Addr} {L : List OpV} (h : OpsIn w A L) (hb : Below w.heap.size w w') : OpsIn w' A L := ⟨h.row.later hb, fun o ho => Sl.later (h.each o ho) hb⟩
theorem OpsIn.at_ {w : World} {A : Option Addr} {L : List OpV} (h : OpsIn w A L) {k : Nat} (hk : k < L.length) :
    ∃ b o, A = some ⟨b, o, none⟩ ∧ b < w.heap.size ∧ w.cell? ⟨b, o + k, none⟩ = some (.slice L[k].A L[k].ps.length L[k].c) ∧ OpIn (· < w.heap.size) w L[k].A L[k].ps := by
  obtain ⟨b, o, e, hb, hc⟩ := h.row.open_ (by omega)
  exact ⟨b, o, e, hb, hc k _ (by rw [List.getElem?_map, List.getElem?_eq_getElem hk]; rfl), h.each _ (List.getElem_mem hk)⟩
/-- May the i'th operation not stand where it stands? -/
def badOp (L : List OpV) (i : Nat) : Bool :=
  match L[i]? with
  | none => false
  | some o => decide (opFault o.ps ≠ 0) || match i with
    | 0 => false
    | j + 1 => match L[j]? with
      | none => false
      | some q => decide ((lens o.ps).1 ≠ (lens q.ps).2)
def edgeMay (s h : Int) (L : List OpV) : Prop := ((0 ≤ s ∧ s ≤ 1048576) ∧ (0 ≤ h ∧ h ≤ 1048576)) ∧ (L.length : Int) ≤ s ∧ ∀ i, i < L.length → badOp L i = false
instance (s h : Int) (L : List OpV) : Decidable (edgeMay s h L) := by
  unfold edgeMay
  exact inferInstance
/-- What Check answers, and EdgeMay. -/
def edgeErr (s h : Int) (L : List OpV) : Int := if edgeMay s h L then 0 else 9
def edgeB (s h : Int) (L : List OpV) : Bool := decide (edgeMay s h L)
abbrev edgeV (s h : Int) (A : Option Addr) (n c : Nat) : Value := .agg #[.int .i64 s, .int .i64 h, .slice A n c]
theorem badOp_fault {L : List OpV} {k : Nat} (hk : k < L.length) (h : opFault L[k].ps ≠ 0) : badOp L k = true := by
  unfold badOp
  rw [List.getElem?_eq_getElem hk]
  simp [h]
theorem badOp_zero {L : List OpV} (hk : 0 < L.length) (h : opFault L[0].ps = 0) : badOp L 0 = false := by
  unfold badOp
  rw [List.getElem?_eq_getElem hk]
  simp [h]
theorem badOp_succ {L : List OpV} {j : Nat} (hk : j + 1 < L.length) (h : opFault L[j + 1].ps = 0) : badOp L (j + 1) = decide ((lens L[j + 1].ps).1 ≠ (lens L[j].ps).2) := by
  unfold badOp
  rw [List.getElem?_eq_getElem hk]
  simp [h, List.getElem?_eq_getElem (show j < L.length by omega)]
theorem edgeMay_bad {s h : Int} {L : List OpV} {k : Nat} (hk : k < L.length) (hb : badOp L k = true) : ¬ edgeMay s h L := fun hm => by
  have := hm.2.2 k hk
  rw [hb] at this
  cases this
theorem EdgeCheck_head1 (w : World) (s h : Int) (A : Option Addr) (c : Nat) (L : List OpV) (h1 : s < 0) : Calls Tryd.prog 45 #[edgeV s h A L.length c] w fun r w' => r = .returned (.int .i64 9) ∧ Below w.heap.size w w' := by
  have d1 : decide (s < 0) = true := by simp; omega
  go_enter Tryd.func45, Tryd.ntmps45
  go_wp2_with fail
  go_ret
  exact ⟨rfl, (by repeat (first | exact Below.refl _ _ | apply bGrow | apply bAlloc | apply Below.drew | apply bDrewN | apply bIter))⟩
theorem EdgeCheck_head2 (w : World) (s h : Int) (A : Option Addr) (c : Nat) (L : List OpV) (h1 : 1048576 < s) : Calls Tryd.prog 45 #[edgeV s h A L.length c] w fun r w' => r = .returned (.int .i64 9) ∧ Below w.heap.size w w' := by
  have d1 : decide (s < 0) = false := by simp; omega
  have d2 : decide (1048576 < s) = true := by simp; omega
  go_enter Tryd.func45, Tryd.ntmps45
  go_wp2_with fail
  go_ret
  exact ⟨rfl, (by repeat (first | exact Below.refl _ _ | apply bGrow | apply bAlloc | apply Below.drew | apply bDrewN | apply bIter))⟩
theorem EdgeCheck_head3 (w : World) (s h : Int) (A : Option Addr) (c : Nat) (L : List OpV) (h1 : 0 ≤ s) (h2 : s ≤ 1048576) (h3 : h < 0) : Calls Tryd.prog 45 #[edgeV s h A L.length c] w fun r w' => r = .returned (.int .i64 9) ∧ Below w.heap.size w w' := by
  have d1 : decide (s < 0) = false := by simp; omega
  have d2 : decide (1048576 < s) = false := by simp; omega
  have d3 : decide (h < 0) = true := by simp; omega
  go_enter Tryd.func45, Tryd.ntmps45
  go_wp2_with fail
  go_ret
  exact ⟨rfl, (by repeat (first | exact Below.refl _ _ | apply bGrow | apply bAlloc | apply Below.drew | apply bDrewN | apply bIter))⟩
theorem EdgeCheck_head4 (w : World) (s h : Int) (A : Option Addr) (c : Nat) (L : List OpV) (h1 : 0 ≤ s) (h2 : s ≤ 1048576) (h3 : 1048576 < h) : Calls Tryd.prog 45 #[edgeV s h A L.length c] w fun r w' => r = .returned (.int .i64 9) ∧ Below w.heap.size w w' := by
  have d1 : decide (s < 0) = false := by simp; omega
  have d2 : decide (1048576 < s) = false := by simp; omega
  have d3 : decide (h < 0) = false := by simp; omega
  have d4 : decide (1048576 < h) = true := by simp; omega
  go_enter Tryd.func45, Tryd.ntmps45
  go_wp2_with fail
  go_ret
  exact ⟨rfl, (by repeat (first | exact Below.refl _ _ | apply bGrow | apply bAlloc | apply Below.drew | apply bDrewN | apply bIter))⟩
theorem EdgeCheck_head5 (w : World) (s h : Int) (A : Option Addr) (c : Nat) (L : List OpV) (h1 : 0 ≤ s) (h2 : s ≤ 1048576) (h3 : 0 ≤ h) (h4 : h ≤ 1048576) (hl : s < L.length) : Calls Tryd.prog 45 #[edgeV s h A L.length c] w fun r w' => r = .returned (.int .i64 9) ∧ Below w.heap.size w w' := by
  have d1 : decide (s < 0) = false := by simp; omega
  have d2 : decide (1048576 < s) = false := by simp; omega
  have d3 : decide (h < 0) = false := by simp; omega
  have d4 : decide (1048576 < h) = false := by simp; omega
  have d5 : decide (s < L.length) = true := by simpa using hl
  go_enter Tryd.func45, Tryd.ntmps45
  go_wp2_with fail
  go_ret
  exact ⟨rfl, (by repeat (first | exact Below.refl _ _ | apply bGrow | apply bAlloc | apply Below.drew | apply bDrewN | apply bIter))⟩
set_option maxHeartbeats 2000000 in
theorem EdgeCheck_loop (w : World) (s h : Int) (A : Option Addr) (c : Nat) (L : List OpV) (h1 : 0 ≤ s) (h2 : s ≤ 1048576) (h3 : 0 ≤ h) (h4 : h ≤ 1048576) (hl : (L.length : Int) ≤ s) (hT : Tabs w) (hs : OpsIn w A L) (hm : ∀ o ∈ L, o.Small) :
    Calls Tryd.prog 45 #[edgeV s h A L.length c] w fun r w' => r = .returned (.int .i64 (edgeErr s h L)) ∧ Below w.heap.size w w' := by
  have d5 : decide (s < L.length) = false := by simp; omega
  have d1 : decide (s < 0) = false := by simp; omega
  have d2 : decide (1048576 < s) = false := by simp; omega
  have d3 : decide (h < 0) = false := by simp; omega
  have d4 : decide (1048576 < h) = false := by simp; omega
  have HM := Lib.hid hm
  have HT := Lib.hid hT
  have HS := Lib.hid hs
  clear hm hT hs
  go_enter Tryd.func45, Tryd.ntmps45
  go_wp2_with fail
  go_loopw [2, 38] (fun r i wr => ∃ (k : Nat), k ≤ L.length ∧ i = .int .i64 k ∧ r = .int .i64 0 ∧ Hid (∀ i, i < k → badOp L i = false) ∧ Below (w.alloc (.cells #[.int .i64 s, .int .i64 h, .slice A L.length c] 41)).heap.size (w.alloc (.cells #[.int .i64 s, .int .i64 h, .slice A L.length c] 41)) wr)
    (fun _ i _ => L.length - (intOf i).toNat)
  case atStart => exact ⟨0, Nat.zero_le _, rfl, rfl, fun i hi => absurd hi (by omega), Below.refl _ _⟩
  case round =>
    obtain ⟨k, hk, rfl, rfl, hok, hbw⟩ := hrel
    have q0 : wr.cell? ⟨w.heap.size, 0, none⟩ = some (.int .i64 s) := (hbw.cell (p := ⟨w.heap.size, 0, none⟩) (by simp)).trans (by simp [go_sem])
    have q2 : wr.cell? ⟨w.heap.size, 2, none⟩ = some (.slice A L.length c) := (hbw.cell (p := ⟨w.heap.size, 2, none⟩) (by simp)).trans (by simp [go_sem])
    have qs : w.heap.size < wr.heap.size := by have := hbw.size; simp at this; omega
    have hwr : Below w.heap.size w wr := bThen (bAlloc (Below.refl _ _) _) hbw
    have HW := Lib.hid hbw
    clear hbw
    have HTW := Lib.hid (HT.out.later hwr)
    have HSW := Lib.hid (HS.out.later hwr)
    by_cases hlt : k < L.length
    · obtain ⟨b, o, rfl, hbs, hcell, hop⟩ := HSW.out.at_ hlt
      have hsm := HM.out _ (List.getElem_mem hlt)
      have hck := fun W (t : Tabs W) (u : OpIn (· < W.heap.size) W L[k].A L[k].ps) => Check_c W L[k].A L[k].c L[k].ps t u hsm.len hsm.text
      by_cases hpf : opFault L[k].ps = 0
      · rw [hpf] at hck
        have HP := Lib.hid hck
        clear hck
        by_cases hk0 : k = 0
        · subst hk0
          have hr : Hid (∀ i, i < 0 + 1 → badOp L i = false) := fun i hi => by
            obtain rfl : i = 0 := by omega
            exact badOp_zero hlt hpf
          clear hpf hsm hok
          generalize L[0] = x at *
          obtain ⟨Ax, cx, px⟩ := x
          dsimp only at *
          simp only [Nat.add_zero] at hcell
          go_wp2_with fail
          refine (HP.out _ (HTW.out.later (by repeat (first | exact Below.refl _ _ | apply bGrow | apply bAlloc | apply Below.drew | apply bDrewN | apply bIter))) (Sl.later hop (by repeat (first | exact Below.refl _ _ | apply bGrow | apply bAlloc | apply Below.drew | apply bDrewN | apply bIter)))).mono ?_
          rintro e w1 ⟨rfl, hb1⟩
          obtain ⟨⟨d1, os1⟩, rfl⟩ := beyond_of hb1
          go_wp2_with fail
          go_roundw
          case rel => exact ⟨1, by omega, by go_num, rfl, hr, bThen HW.out (by repeat (first | exact Below.refl _ _ | apply bGrow | apply bAlloc | apply Below.drew | apply bDrewN | apply bIter))⟩
          case measure => simp [intOf]; omega
        · obtain ⟨j, rfl⟩ : ∃ j, k = j + 1 := ⟨k - 1, by omega⟩
          obtain ⟨b', o', hbo, _, hcel', hop'⟩ := HSW.out.at_ (k := j) (by omega)
          injection hbo with hbo
          injection hbo with e1 e2
          subst e1 e2
          have hsm' := HM.out _ (List.getElem_mem (show j < L.length by omega))
          have hba := badOp_succ hlt hpf
          have hle : j + 1 ≤ 1048576 := by omega
          have hl1 := fun W (u : OpIn (· < W.heap.size) W L[j].A L[j].ps) => Lengths_c W L[j].A L[j].c L[j].ps u hsm'.len hsm'.text
          have hl2 := fun W (u : OpIn (· < W.heap.size) W L[j + 1].A L[j + 1].ps) => Lengths_c W L[j + 1].A L[j + 1].c L[j + 1].ps u hsm.len hsm.text
          by_cases hne : (lens L[j + 1].ps).1 = (lens L[j].ps).2
          · rw [decide_eq_false (by simpa using hne)] at hba
            have hr : Hid (∀ i, i < j + 1 + 1 → badOp L i = false) := fun i hi => by
              rcases Nat.lt_or_ge i (j + 1) with h | h
              · exact hok.out i h
              · obtain rfl : i = j + 1 := by omega
                exact hba
            clear hba
            generalize lens L[j].ps = l1 at *
            generalize lens L[j + 1].ps = l2 at *
            obtain ⟨f1, t1⟩ := l1
            obtain ⟨f2, t2⟩ := l2
            dsimp only at *
            clear hpf hsm hsm' hok hk0
            subst hne
            generalize L[j] = y at *
            obtain ⟨Ay, cy, py⟩ := y
            dsimp only at *
            generalize L[j + 1] = x at *
            obtain ⟨Ax, cx, px⟩ := x
            dsimp only at *
            have HL1 := Lib.hid hl1
            have HL2 := Lib.hid hl2
            clear hl1 hl2
            go_wp2_with fail
            refine (HP.out _ (HTW.out.later (by repeat (first | exact Below.refl _ _ | apply bGrow | apply bAlloc | apply Below.drew | apply bDrewN | apply bIter))) (Sl.later hop (by repeat (first | exact Below.refl _ _ | apply bGrow | apply bAlloc | apply Below.drew | apply bDrewN | apply bIter)))).mono ?_
            rintro e w1 ⟨rfl, hb1⟩
            obtain ⟨⟨d1, os1⟩, rfl⟩ := beyond_of hb1
            go_wp2_with fail
            refine (HL1.out _ (Sl.later hop' (by repeat (first | exact Below.refl _ _ | apply bGrow | apply bAlloc | apply Below.drew | apply bDrewN | apply bIter)))).mono ?_
            rintro e w2 ⟨rfl, hb2⟩
            obtain ⟨⟨d2, os2⟩, rfl⟩ := beyond_of hb2
            go_wp2_with fail
            refine (HL2.out _ (Sl.later hop (by repeat (first | exact Below.refl _ _ | apply bGrow | apply bAlloc | apply Below.drew | apply bDrewN | apply bIter)))).mono ?_
            rintro e w3 ⟨rfl, hb3⟩
            obtain ⟨⟨d3, os3⟩, rfl⟩ := beyond_of hb3
            go_wp2_with fail
            go_roundw
            case rel => exact ⟨j + 1 + 1, by omega, by go_num, rfl, hr, bThen HW.out (by repeat (first | exact Below.refl _ _ | apply bGrow | apply bAlloc | apply Below.drew | apply bDrewN | apply bIter))⟩
            case measure => simp [intOf]; omega
          · rw [decide_eq_true hne] at hba
            have HF := Lib.hid (show edgeErr s h L = 9 from if_neg (edgeMay_bad hlt (hba)))
            clear hba
            generalize lens L[j].ps = l1 at *
            generalize lens L[j + 1].ps = l2 at *
            obtain ⟨f1, t1⟩ := l1
            obtain ⟨f2, t2⟩ := l2
            dsimp only at *
            clear hpf hsm hsm' hok hk0
            have hd : (f2 != t1) = true := by simpa using hne
            have hd2 : (f2 == t1) = false := by simpa using hne
            clear hne
            generalize L[j] = y at *
            obtain ⟨Ay, cy, py⟩ := y
            dsimp only at *
            generalize L[j + 1] = x at *
            obtain ⟨Ax, cx, px⟩ := x
            dsimp only at *
            have HL1 := Lib.hid hl1
            have HL2 := Lib.hid hl2
            clear hl1 hl2
            go_wp2_with fail
            refine (HP.out _ (HTW.out.later (by repeat (first | exact Below.refl _ _ | apply bGrow | apply bAlloc | apply Below.drew | apply bDrewN | apply bIter))) (Sl.later hop (by repeat (first | exact Below.refl _ _ | apply bGrow | apply bAlloc | apply Below.drew | apply bDrewN | apply bIter)))).mono ?_
            rintro e w1 ⟨rfl, hb1⟩
            obtain ⟨⟨d1, os1⟩, rfl⟩ := beyond_of hb1
            go_wp2_with fail
            refine (HL1.out _ (Sl.later hop' (by repeat (first | exact Below.refl _ _ | apply bGrow | apply bAlloc | apply Below.drew | apply bDrewN | apply bIter)))).mono ?_
            rintro e w2 ⟨rfl, hb2⟩
            obtain ⟨⟨d2, os2⟩, rfl⟩ := beyond_of hb2
            go_wp2_with fail
            refine (HL2.out _ (Sl.later hop (by repeat (first | exact Below.refl _ _ | apply bGrow | apply bAlloc | apply Below.drew | apply bDrewN | apply bIter)))).mono ?_
            rintro e w3 ⟨rfl, hb3⟩
            obtain ⟨⟨d3, os3⟩, rfl⟩ := beyond_of hb3
            go_wp2_with fail
            go_ret
            exact ⟨by rw [HF.out]; rfl, bThen hwr (by repeat (first | exact Below.refl _ _ | apply bGrow | apply bAlloc | apply Below.drew | apply bDrewN | apply bIter))⟩
      · have HF := Lib.hid (show edgeErr s h L = 9 from if_neg (edgeMay_bad hlt (badOp_fault hlt hpf)))
        have hb0 : (opFault L[k].ps != 0) = true := by simpa using hpf
        generalize opFault L[k].ps = fx at *
        have HP := Lib.hid hck
        clear hck hpf hsm
        generalize L[k] = x at *
        obtain ⟨Ax, cx, px⟩ := x
        dsimp only at *
        go_wp2_with fail
        refine (HP.out _ (HTW.out.later (by repeat (first | exact Below.refl _ _ | apply bGrow | apply bAlloc | apply Below.drew | apply bDrewN | apply bIter))) (Sl.later hop (by repeat (first | exact Below.refl _ _ | apply bGrow | apply bAlloc | apply Below.drew | apply bDrewN | apply bIter)))).mono ?_
        rintro e w1 ⟨rfl, hb1⟩
        obtain ⟨⟨d1, os1⟩, rfl⟩ := beyond_of hb1
        go_wp2_with fail
        go_ret
        exact ⟨by rw [HF.out]; rfl, bThen hwr (by repeat (first | exact Below.refl _ _ | apply bGrow | apply bAlloc | apply Below.drew | apply bDrewN | apply bIter))⟩
    · obtain rfl : k = L.length := by omega
      have HF := Lib.hid (show edgeErr s h L = 0 from if_pos ⟨⟨⟨h1, h2⟩, h3, h4⟩, hl, hok.out⟩)
      go_wp2_with fail
      go_ret
      exact ⟨by rw [HF.out]; rfl, bThen hwr (by repeat (first | exact Below.refl _ _ | apply bGrow | apply bAlloc | apply Below.drew | apply bDrewN | apply bIter))⟩
theorem EdgeMay_head1 (w : World) (s h : Int) (A : Option Addr) (c : Nat) (L : List OpV) (H : Hid (s < 0 ∨ 1048576 < s)) : Calls Tryd.prog 50 #[edgeV s h A L.length c] w fun r w' => r = .returned (.bool false) ∧ Below w.heap.size w w' := by
  go_enter Tryd.func50, Tryd.ntmps50
  go_wp2_with fail
  refine (In_no _ _ _ _ H.out).mono ?_
  rintro e w1 ⟨rfl, rfl⟩
  go_wp2_with fail
  go_ret
  exact ⟨rfl, (by repeat (first | exact Below.refl _ _ | apply bGrow | apply bAlloc | apply Below.drew | apply bDrewN | apply bIter))⟩
theorem EdgeMay_head2 (w : World) (s h : Int) (A : Option Addr) (c : Nat) (L : List OpV) (h1 : 0 ≤ s) (h2 : s ≤ 1048576) (H : Hid (h < 0 ∨ 1048576 < h)) : Calls Tryd.prog 50 #[edgeV s h A L.length c] w fun r w' => r = .returned (.bool false) ∧ Below w.heap.size w w' := by
  go_enter Tryd.func50, Tryd.ntmps50
  go_wp2_with fail
  refine (In_yes _ _ _ _ (by omega) (by omega)).mono ?_
  rintro e w1 ⟨rfl, rfl⟩
  go_wp2_with fail
  refine (In_no _ _ _ _ H.out).mono ?_
  rintro e w1 ⟨rfl, rfl⟩
  go_wp2_with fail
  go_ret
  exact ⟨rfl, (by repeat (first | exact Below.refl _ _ | apply bGrow | apply bAlloc | apply Below.drew | apply bDrewN | apply bIter))⟩
theorem EdgeMay_head3 (w : World) (s h : Int) (A : Option Addr) (c : Nat) (L : List OpV) (h1 : 0 ≤ s) (h2 : s ≤ 1048576) (h3 : 0 ≤ h) (h4 : h ≤ 1048576) (hl : s < L.length) : Calls Tryd.prog 50 #[edgeV s h A L.length c] w fun r w' => r = .returned (.bool false) ∧ Below w.heap.size w w' := by
  have d5 : decide (s < L.length) = true := by simpa using hl
  go_enter Tryd.func50, Tryd.ntmps50
  go_wp2_with fail
  refine (In_yes _ _ _ _ (by omega) (by omega)).mono ?_
  rintro e w1 ⟨rfl, rfl⟩
  go_wp2_with fail
  refine (In_yes _ _ _ _ (by omega) (by omega)).mono ?_
  rintro e w1 ⟨rfl, rfl⟩
  go_wp2_with fail
  go_ret
  exact ⟨rfl, (by repeat (first | exact Below.refl _ _ | apply bGrow | apply bAlloc | apply Below.drew | apply bDrewN | apply bIter))⟩
set_option maxHeartbeats 2000000 in
theorem EdgeMay_loop (w : World) (s h : Int) (A : Option Addr) (c : Nat) (L : List OpV) (h1 : 0 ≤ s) (h2 : s ≤ 1048576) (h3 : 0 ≤ h) (h4 : h ≤ 1048576) (hl : (L.length : Int) ≤ s) (hT : Tabs w) (hs : OpsIn w A L) (hm : ∀ o ∈ L, o.Small) :
    Calls Tryd.prog 50 #[edgeV s h A L.length c] w fun r w' => r = .returned (.bool (edgeB s h L)) ∧ Below w.heap.size w w' := by
  have d5 : decide (s < L.length) = false := by simp; omega
  have HM := Lib.hid hm
  have HT := Lib.hid hT
  have HS := Lib.hid hs
  clear hm hT hs
  go_enter Tryd.func50, Tryd.ntmps50
  go_wp2_with fail
  refine (In_yes _ _ _ _ (by omega) (by omega)).mono ?_
  rintro e w1 ⟨rfl, rfl⟩
  go_wp2_with fail
  refine (In_yes _ _ _ _ (by omega) (by omega)).mono ?_
  rintro e w1 ⟨rfl, rfl⟩
  go_wp2_with fail
  go_loopw [2, 3] (fun r i wr => ∃ (k : Nat), k ≤ L.length ∧ i = .int .i64 k ∧ r = .bool false ∧ Hid (∀ i, i < k → badOp L i = false) ∧ Below (w.alloc (.cells #[.int .i64 s, .int .i64 h, .slice A L.length c] 41)).heap.size (w.alloc (.cells #[.int .i64 s, .int .i64 h, .slice A L.length c] 41)) wr)
    (fun _ i _ => L.length - (intOf i).toNat)
  case atStart => exact ⟨0, Nat.zero_le _, rfl, rfl, fun i hi => absurd hi (by omega), Below.refl _ _⟩
  case round =>
    obtain ⟨k, hk, rfl, rfl, hok, hbw⟩ := hrel
    have q0 : wr.cell? ⟨w.heap.size, 0, none⟩ = some (.int .i64 s) := (hbw.cell (p := ⟨w.heap.size, 0, none⟩) (by simp)).trans (by simp [go_sem])
    have q2 : wr.cell? ⟨w.heap.size, 2, none⟩ = some (.slice A L.length c) := (hbw.cell (p := ⟨w.heap.size, 2, none⟩) (by simp)).trans (by simp [go_sem])
    have qs : w.heap.size < wr.heap.size := by have := hbw.size; simp at this; omega
    have hwr : Below w.heap.size w wr := bThen (bAlloc (Below.refl _ _) _) hbw
    have HW := Lib.hid hbw
    clear hbw
    have HTW := Lib.hid (HT.out.later hwr)
    have HSW := Lib.hid (HS.out.later hwr)
    by_cases hlt : k < L.length
    · obtain ⟨b, o, rfl, hbs, hcell, hop⟩ := HSW.out.at_ hlt
      have hsm := HM.out _ (List.getElem_mem hlt)
      have hck := fun W (t : Tabs W) (u : OpIn (· < W.heap.size) W L[k].A L[k].ps) => OpFault_c W L[k].A L[k].c L[k].ps t u hsm.len hsm.text
      by_cases hpf : opFault L[k].ps = 0
      · rw [hpf] at hck
        have HP := Lib.hid hck
        clear hck
        by_cases hk0 : k = 0
        · subst hk0
          have hr : Hid (∀ i, i < 0 + 1 → badOp L i = false) := fun i hi => by
            obtain rfl : i = 0 := by omega
            exact badOp_zero hlt hpf
          clear hpf hsm hok
          generalize L[0] = x at *
          obtain ⟨Ax, cx, px⟩ := x
          dsimp only at *
          simp only [Nat.add_zero] at hcell
          go_wp2_with fail
          refine (HP.out _ (HTW.out.later (by repeat (first | exact Below.refl _ _ | apply bGrow | apply bAlloc | apply Below.drew | apply bDrewN | apply bIter))) (Sl.later hop (by repeat (first | exact Below.refl _ _ | apply bGrow | apply bAlloc | apply Below.drew | apply bDrewN | apply bIter)))).mono ?_
          rintro e w1 ⟨rfl, hb1⟩
          obtain ⟨⟨d1, os1⟩, rfl⟩ := beyond_of hb1
          go_wp2_with fail
          go_roundw
          case rel => exact ⟨1, by omega, by go_num, rfl, hr, bThen HW.out (by repeat (first | exact Below.refl _ _ | apply bGrow | apply bAlloc | apply Below.drew | apply bDrewN | apply bIter))⟩
          case measure => simp [intOf]; omega
        · obtain ⟨j, rfl⟩ : ∃ j, k = j + 1 := ⟨k - 1, by omega⟩
          obtain ⟨b', o', hbo, _, hcel', hop'⟩ := HSW.out.at_ (k := j) (by omega)
          injection hbo with hbo
          injection hbo with e1 e2
          subst e1 e2
          have hsm' := HM.out _ (List.getElem_mem (show j < L.length by omega))
          have hba := badOp_succ hlt hpf
          have hle : j + 1 ≤ 1048576 := by omega
          have hl1 := fun W (u : OpIn (· < W.heap.size) W L[j].A L[j].ps) => LengthsOf_c W L[j].A L[j].c L[j].ps u hsm'.len hsm'.text
          have hl2 := fun W (u : OpIn (· < W.heap.size) W L[j + 1].A L[j + 1].ps) => LengthsOf_c W L[j + 1].A L[j + 1].c L[j + 1].ps u hsm.len hsm.text
          by_cases hne : (lens L[j + 1].ps).1 = (lens L[j].ps).2
          · rw [decide_eq_false (by simpa using hne)] at hba
            have hr : Hid (∀ i, i < j + 1 + 1 → badOp L i = false) := fun i hi => by
              rcases Nat.lt_or_ge i (j + 1) with h | h
              · exact hok.out i h
              · obtain rfl : i = j + 1 := by omega
                exact hba
            clear hba
            generalize lens L[j].ps = l1 at *
            generalize lens L[j + 1].ps = l2 at *
            obtain ⟨f1, t1⟩ := l1
            obtain ⟨f2, t2⟩ := l2
            dsimp only at *
            clear hpf hsm hsm' hok hk0
            subst hne
            generalize L[j] = y at *
            obtain ⟨Ay, cy, py⟩ := y
            dsimp only at *
            generalize L[j + 1] = x at *
            obtain ⟨Ax, cx, px⟩ := x
            dsimp only at *
            have HL1 := Lib.hid hl1
            have HL2 := Lib.hid hl2
            clear hl1 hl2
            go_wp2_with fail
            refine (HP.out _ (HTW.out.later (by repeat (first | exact Below.refl _ _ | apply bGrow | apply bAlloc | apply Below.drew | apply bDrewN | apply bIter))) (Sl.later hop (by repeat (first | exact Below.refl _ _ | apply bGrow | apply bAlloc | apply Below.drew | apply bDrewN | apply bIter)))).mono ?_
            rintro e w1 ⟨rfl, hb1⟩
            obtain ⟨⟨d1, os1⟩, rfl⟩ := beyond_of hb1
            go_wp2_with fail
            refine (HL2.out _ (Sl.later hop (by repeat (first | exact Below.refl _ _ | apply bGrow | apply bAlloc | apply Below.drew | apply bDrewN | apply bIter)))).mono ?_
            rintro e w2 ⟨rfl, hb2⟩
            obtain ⟨⟨d2, os2⟩, rfl⟩ := beyond_of hb2
            go_wp2_with fail
            refine (HL1.out _ (Sl.later hop' (by repeat (first | exact Below.refl _ _ | apply bGrow | apply bAlloc | apply Below.drew | apply bDrewN | apply bIter)))).mono ?_
            rintro e w3 ⟨rfl, hb3⟩
            obtain ⟨⟨d3, os3⟩, rfl⟩ := beyond_of hb3
            go_wp2_with fail
            go_roundw
            case rel => exact ⟨j + 1 + 1, by omega, by go_num, rfl, hr, bThen HW.out (by repeat (first | exact Below.refl _ _ | apply bGrow | apply bAlloc | apply Below.drew | apply bDrewN | apply bIter))⟩
            case measure => simp [intOf]; omega
          · rw [decide_eq_true hne] at hba
            have HF := Lib.hid (show edgeB s h L = false from decide_eq_false (edgeMay_bad hlt (hba)))
            clear hba
            generalize lens L[j].ps = l1 at *
            generalize lens L[j + 1].ps = l2 at *
            obtain ⟨f1, t1⟩ := l1
            obtain ⟨f2, t2⟩ := l2
            dsimp only at *
            clear hpf hsm hsm' hok hk0
            have hd : (f2 != t1) = true := by simpa using hne
            have hd2 : (f2 == t1) = false := by simpa using hne
            clear hne
            generalize L[j] = y at *
            obtain ⟨Ay, cy, py⟩ := y
            dsimp only at *
            generalize L[j + 1] = x at *
            obtain ⟨Ax, cx, px⟩ := x
            dsimp only at *
            have HL1 := Lib.hid hl1
            have HL2 := Lib.hid hl2
            clear hl1 hl2
            go_wp2_with fail
            refine (HP.out _ (HTW.out.later (by repeat (first | exact Below.refl _ _ | apply bGrow | apply bAlloc | apply Below.drew | apply bDrewN | apply bIter))) (Sl.later hop (by repeat (first | exact Below.refl _ _ | apply bGrow | apply bAlloc | apply Below.drew | apply bDrewN | apply bIter)))).mono ?_
            rintro e w1 ⟨rfl, hb1⟩
            obtain ⟨⟨d1, os1⟩, rfl⟩ := beyond_of hb1
            go_wp2_with fail
            refine (HL2.out _ (Sl.later hop (by repeat (first | exact Below.refl _ _ | apply bGrow | apply bAlloc | apply Below.drew | apply bDrewN | apply bIter)))).mono ?_
            rintro e w2 ⟨rfl, hb2⟩
            obtain ⟨⟨d2, os2⟩, rfl⟩ := beyond_of hb2
            go_wp2_with fail
            refine (HL1.out _ (Sl.later hop' (by repeat (first | exact Below.refl _ _ | apply bGrow | apply bAlloc | apply Below.drew | apply bDrewN | apply bIter)))).mono ?_
            rintro e w3 ⟨rfl, hb3⟩
            obtain ⟨⟨d3, os3⟩, rfl⟩ := beyond_of hb3
            go_wp2_with fail
            go_ret
            exact ⟨by rw [HF.out]; rfl, bThen hwr (by repeat (first | exact Below.refl _ _ | apply bGrow | apply bAlloc | apply Below.drew | apply bDrewN | apply bIter))⟩
      · have HF := Lib.hid (show edgeB s h L = false from decide_eq_false (edgeMay_bad hlt (badOp_fault hlt hpf)))
        have hb0 : (opFault L[k].ps != 0) = true := by simpa using hpf
        generalize opFault L[k].ps = fx at *
        have HP := Lib.hid hck
        clear hck hpf hsm
        generalize L[k] = x at *
        obtain ⟨Ax, cx, px⟩ := x
        dsimp only at *
        go_wp2_with fail
        refine (HP.out _ (HTW.out.later (by repeat (first | exact Below.refl _ _ | apply bGrow | apply bAlloc | apply Below.drew | apply bDrewN | apply bIter))) (Sl.later hop (by repeat (first | exact Below.refl _ _ | apply bGrow | apply bAlloc | apply Below.drew | apply bDrewN | apply bIter)))).mono ?_
        rintro e w1 ⟨rfl, hb1⟩
        obtain ⟨⟨d1, os1⟩, rfl⟩ := beyond_of hb1
        go_wp2_with fail
        go_ret
        exact ⟨by rw [HF.out]; rfl, bThen hwr (by repeat (first | exact Below.refl _ _ | apply bGrow | apply bAlloc | apply Below.drew | apply bDrewN | apply bIter))⟩
    · obtain rfl : k = L.length := by omega
      have HF := Lib.hid (show edgeB s h L = true from decide_eq_true ⟨⟨⟨h1, h2⟩, h3, h4⟩, hl, hok.out⟩)
      go_wp2_with fail
      go_ret
      exact ⟨by rw [HF.out]; rfl, bThen hwr (by repeat (first | exact Below.refl _ _ | apply bGrow | apply bAlloc | apply Below.drew | apply bDrewN | apply bIter))⟩
end Go.Proofs.YtbmdepbmejnlkaaDoor
