/-
  Contract of node.undo: a range over slices.Backward.
-/
import Derived.Test.YtbmdepbmejnlkaaDoorRows
import Derived.Test.YtbmdepbmejnlkaaDoorBack
import Derived.Test.YtbmdepbmejnlkaaDoorNodeP
namespace Go.Proofs.YtbmdepbmejnlkaaDoor
open Go.ChangeShapes Go.WideShapes Go.ChangeAt Go.RowKit Go.Shelf
attribute [local go_sem] Oper.semAt_some
set_option maxRecDepth 100000
/-- What the text has to be as long as, when these were undone. -/
def atOf (r : Int) : List (List PartD) → Int
  | [] => r
  | o :: os => atOf (lens o).2 os
theorem atOf_snoc (r : Int) (a : List (List PartD)) (x : List PartD) : atOf r (a ++ [x]) = (lens x).2 := by
  induction a generalizing r with
  | nil => rfl
  | cons o os ih => exact ih _
theorem undoOk_snoc (r : Int) (a : List (List PartD)) (x : List PartD) : undoOk r (a ++ [x]) ↔ undoOk r a ∧ opFault x = 0 ∧ (lens x).1 = atOf r a := by
  induction a generalizing r with
  | nil => exact ⟨fun h => ⟨trivial, h.1⟩, fun h => ⟨h.2, trivial⟩⟩
  | cons o os ih =>
    show ((opFault o = 0 ∧ (lens o).1 = r) ∧ undoOk (lens o).2 (os ++ [x])) ↔ ((opFault o = 0 ∧ (lens o).1 = r) ∧ undoOk (lens o).2 os) ∧ opFault x = 0 ∧ (lens x).1 = atOf (lens o).2 os
    rw [ih, and_assoc, and_assoc, and_assoc]
theorem undoOk_pre {r : Int} {a b : List (List PartD)} (h : undoOk r (a ++ b)) : undoOk r a := by
  induction a generalizing r with
  | nil => trivial
  | cons o os ih => exact ⟨h.1, ih h.2⟩
theorem keepsOthers_of {W W' : World} (h : Below W.heap.size W W') : KeepsOthers W W' := ⟨h.size, fun k _ hk _ => (h.block k (Array.getElem?_eq_some_iff.1 hk).1).trans hk⟩
def backPs {L : List OpV} (pre : List (BackI L)) : List (List PartD) := (backOps pre).map OpV.ps
theorem backPs_snoc {L : List OpV} (pre : List (BackI L)) (x : BackI L) : backPs (pre ++ [x]) = backPs pre ++ [x.2.1.ps] := by simp [backPs]
theorem cell_of_box_l {W : World} {B : Nat} {v : Value} {t : TypeId} (h : W.heap[B]? = some (.cells #[v] t (0, 0))) : W.cell? ⟨B, 0, none⟩ = some v ∧ W.frozen? ⟨B, 0, none⟩ = false := by
  constructor <;> simp [World.cell?, World.frozen?, h]
theorem cell_new_l (W : World) (v : Value) (t : TypeId) : (W.alloc (.cells #[v] t)).cell? ⟨W.heap.size, 0, none⟩ = some v ∧ (W.alloc (.cells #[v] t)).frozen? ⟨W.heap.size, 0, none⟩ = false :=
  cell_of_box_l (World.alloc_heap_new W _)
theorem cell_alloc_l {W : World} {a : Addr} {v : Value} (o : Obj) (h : W.cell? a = some v) : (W.alloc o).cell? a = some v := cell_kept h (World.grownBy_alloc W o none) (fun r e => by cases e)
theorem frozen_alloc_l {W : World} {a : Addr} {v : Value} (o : Obj) (h : W.cell? a = some v) (hf : W.frozen? a = false) : (W.alloc o).frozen? a = false := (frozen_kept h (World.grownBy_alloc W o none) (fun r e => by cases e)).trans hf
/-- What lies between two rounds. -/
structure UndoI (n0 AT : Nat) (uA : Option Addr) (uc : Nat) (U : List OpV) (r : Int) (pre : List (BackI U)) (W : World) : Prop where
  ok : undoOk r (backPs pre)
  at_ : W.cell? ⟨AT, 0, none⟩ = some (.int .i64 (atOf r (backPs pre)))
  atf : W.frozen? ⟨AT, 0, none⟩ = false
  rb : W.cell? ⟨n0 + 1, 0, none⟩ = some (.bool false)
  rbf : W.frozen? ⟨n0 + 1, 0, none⟩ = false
  nd : W.cell? ⟨n0, 6, none⟩ = some (.slice uA U.length uc)
theorem UndoI.own (n0 AT : Nat) (uA : Option Addr) (uc : Nat) (U : List OpV) (r : Int) : Own (UndoI n0 AT uA uc U r) := fun _ _ _ _ hs hg hr =>
  ⟨hs.ok, cell_kept hs.at_ hg hr, (frozen_kept hs.at_ hg hr).trans hs.atf, cell_kept hs.rb hg hr, (frozen_kept hs.rb hg hr).trans hs.rbf, cell_kept hs.nd hg hr⟩
theorem UndoI.far {n0 AT : Nat} {uA : Option Addr} {uc : Nat} {U : List OpV} {r : Int} {pre : List (BackI U)} {W W' : World} (h : UndoI n0 AT uA uc U r pre W) (hb : Below W.heap.size W W') : UndoI n0 AT uA uc U r pre W' :=
  ⟨h.ok, (hb.cell (block_lt_of_cell h.at_)).trans h.at_, (hb.frozen (block_lt_of_cell h.at_)).trans h.atf, (hb.cell (block_lt_of_cell h.rb)).trans h.rb, (hb.frozen (block_lt_of_cell h.rb)).trans h.rbf, (hb.cell (block_lt_of_cell h.nd)).trans h.nd⟩
set_option maxHeartbeats 2000000 in
theorem undo_c (w : World) (n : NodeV) (hT : Tabs w) (hi : OpsIn w n.uA n.U) (hl : n.U.length ≤ 1048576) (hm : ∀ o ∈ n.U, o.Small) (ht : n.t.size ≤ 1048576) :
    Calls Tryd.prog 27 #[n.val] w fun e w' => (∃ b : Bool, e = .returned (.bool b) ∧ (b = true ↔ undoOk (runesI n.t) (n.U.map OpV.ps).reverse ∧ n.U.length ≤ 12)) ∧ Below w.heap.size w w' := by
  obtain ⟨me, ep, up, rd, t, sA, sc, S, uA, uc, U, mA, mc, M⟩ := n
  dsimp only at *
  have HT := Lib.hid hT
  have HI := Lib.hid hi
  have HM := Lib.hid hm
  clear hT hi hm
  refine (callsIn_wide (n := 9)).1 ?_
  refine callsIn_of_wp_marks Tryd.func27 rfl trivial ?_ rfl
  simp only [Tryd.ntmps27, List.size_toArray, List.length_cons, List.length_nil, Nat.reduceAdd, Nat.reduceSub, Array.replicate_succ, Array.replicate_zero, List.push_toArray, List.append_toArray, List.nil_append, List.cons_append]
  gi_wp2
  all_goals (
    obtain ⟨WA, hWA⟩ : ∃ WA, WA = (w.alloc (.cells #[.int .i64 me, .int .i64 ep, .int .i64 up, .bool rd, .string t, .slice sA S.length sc, .slice uA U.length uc, .slice mA M.length mc] 28)).alloc (.cells #[.bool false] 4) := ⟨_, rfl⟩
    rw [← hWA]
    have hN : WA.heap[w.heap.size]? = some (.cells #[.int .i64 me, .int .i64 ep, .int .i64 up, .bool rd, .string t, .slice sA S.length sc, .slice uA U.length uc, .slice mA M.length mc] 28 (0, 0)) := by rw [hWA]; exact (heap_alloc_old _ _ _ (by simp)).trans (by show (w.heap.push _)[w.heap.size]? = _; simp)
    have hR : WA.heap[w.heap.size + 1]? = some (.cells #[.bool false] 4 (0, 0)) := by rw [hWA]; have := World.alloc_heap_new (w.alloc (.cells #[.int .i64 me, .int .i64 ep, .int .i64 up, .bool rd, .string t, .slice sA S.length sc, .slice uA U.length uc, .slice mA M.length mc] 28)) (.cells #[.bool false] 4); rwa [World.size_alloc] at this
    have hBA : Below w.heap.size w WA := by rw [hWA]; exact bAlloc (bAlloc (Below.refl _ _) _) _
    have hzA : WA.heap.size = w.heap.size + 2 := by rw [hWA]; simp
    clear hWA
    refine ⟨trivial, callsIn_wide.2 ((runeCount_c t _ ht).mono ?_)⟩
    rintro e w1 ⟨rfl, hb1⟩
    have HN1 := Lib.hid ((hb1.block _ (by omega)).trans hN)
    have HR1 := Lib.hid ((hb1.block _ (by omega)).trans hR)
    have HB1 := Lib.hid (bThen hBA hb1)
    have hz1 := hb1.size
    have n6 : w1.cell? ⟨w.heap.size, 6, none⟩ = some (.slice uA U.length uc) := by unfold World.cell?; rw [HN1.out]; rfl
    have hlt : w.heap.size < w1.heap.size := by omega
    clear hN hR hBA hb1
    gi_wp2
    refine ⟨trivial, (Back_in Fence.wide 8 trivial rfl _ _ _ _).mono ?_⟩
    rintro e w2 ⟨rfl, rfl⟩
    gi_wp2
    obtain ⟨AT, hAT⟩ : ∃ AT, AT = w1.heap.size := ⟨_, rfl⟩
    obtain ⟨WL, hWL⟩ : ∃ WL, WL = (w1.alloc (.cells #[.int .i64 (Lib.runeCount t : Int)] 3)).alloc (.cells #[.slice uA U.length uc] 25) := ⟨_, rfl⟩
    have hzL : WL.heap.size = AT + 2 := by rw [hWL, hAT]; simp
    have hkL : Below w1.heap.size w1 WL := by rw [hWL]; exact bAlloc (bAlloc (Below.refl _ _) _) _
    have hBL := bThen HB1.out hkL
    have hs := cell_new_l w1 (.int .i64 (Lib.runeCount t : Int)) 3
    have hb := cell_new_l (w1.alloc (.cells #[.int .i64 (Lib.runeCount t : Int)] 3)) (.slice uA U.length uc) 25
    rw [World.size_alloc, ← hWL, ← hAT] at hb
    have hA1 : WL.cell? ⟨AT, 0, none⟩ = some (.int .i64 (Lib.runeCount t : Int)) := by rw [hWL, hAT]; exact cell_alloc_l _ hs.1
    have hA2 : WL.frozen? ⟨AT, 0, none⟩ = false := by rw [hWL, hAT]; exact frozen_alloc_l _ hs.1 hs.2
    have hR1 : WL.cell? ⟨w.heap.size + 1, 0, none⟩ = some (.bool false) := by unfold World.cell?; rw [hkL.block (w.heap.size + 1) (by omega), HR1.out]; rfl
    have hR2 : WL.frozen? ⟨w.heap.size + 1, 0, none⟩ = false := by unfold World.frozen?; rw [hkL.block (w.heap.size + 1) (by omega), HR1.out]; rfl
    have hN6 : WL.cell? ⟨w.heap.size, 6, none⟩ = some (.slice uA U.length uc) := by unfold World.cell?; rw [hkL.block w.heap.size (by omega), HN1.out]; rfl
    have HIL := Lib.hid (HI.out.later hBL)
    rw [← hWL, ← hAT]
    have hATw : w.heap.size + 1 < AT := by omega
    clear hs hWL hAT hkL hz1 hzA n6 hlt HN1 HR1 HB1
    refine wpIn_rangeFunc_ownF (n := 9) rfl (by decide) (gf := 90) (lb := #[.pointer (some ⟨AT + 1, 0, none⟩)]) rfl trivial (enters_of Tryd.func90 (by kernel_rfl) rfl)
      (back_stops Fence.wide 8 trivial rfl (by decide) (AT + 1) w.heap.size uA uc U hl WL (by omega) (by omega) hb.1 (HI.out.row.below hBL (Nat.le_refl _))) (fun h k => KpB.trans h k) (fun W l o o' h1 h2 h3 h4 => KpB.put (w := WL) (by omega) (by omega) W l o o' h1 h2 h3 h4) (Below.refl _ _) (fun _ => rfl)
      (fun pre W => UndoI w.heap.size AT uA uc U (runesI t) pre W ∧ (Below w.heap.size w W ∧ AT + 2 ≤ W.heap.size))
      (fun c pre W => (c = .ret ∧ ¬ undoOk (runesI t) (backPs pre) ∧ W.cell? ⟨w.heap.size + 1, 0, none⟩ = some (.bool false)) ∧ Below w.heap.size w W)
      (OwnFrom.and (Own.from (UndoI.own _ _ _ _ _ _) _) (OwnFrom.and (ownFrom_below (Nat.le_refl _) (by omega)) (fun _ _ _ _ h hg _ => Nat.le_trans h hg.size)))
      (fun c => OwnFrom.and (Own.from (fun s A B row hs hg hr => ⟨hs.1, hs.2.1, cell_kept hs.2.2 hg hr⟩) _) (ownFrom_below (Nat.le_refl _) (by omega)))
      ⟨⟨trivial, hA1, hA2, hR1, hR2, hN6⟩, hBL, by omega⟩
      (fun x => { tmps := #[(NodeV.val ⟨me, ep, up, rd, t, sA, sc, S, uA, uc, U, mA, mc, M⟩), .pointer (some ⟨w.heap.size, 0, none⟩), .pointer (some ⟨w.heap.size + 1, 0, none⟩), .pointer (some ⟨AT, 0, none⟩), undef, x.2.1.val, undef, undef, .pointer (some ⟨w.heap.size, 4, none⟩), .string t, .int .i64 (Lib.runeCount t : Int), .pointer (some ⟨w.heap.size, 6, none⟩), .slice uA U.length uc, .func (.func 90) #[] #[.pointer (some ⟨AT + 1, 0, none⟩)], .int .i64 (x.1 : Int), x.2.1.val, undef, undef, undef, undef, undef, undef, undef, undef, undef, undef, undef, undef, undef, undef, undef, undef, undef, undef], defers := [] }) ?assign ?body ?done ?stop
    case assign =>
      intro l x W K hK
      gi_wp2
      exact hK
    case body =>
      rintro l pre ⟨k, ⟨⟨qA, qc, qp⟩, hq⟩⟩ W ⟨hI, hB, hsz⟩ _
      have HQ := Lib.hid (backPs_snoc pre (⟨k, ⟨⟨qA, qc, qp⟩, hq⟩⟩ : BackI U))
      have hqs := HM.out _ hq
      have HLN := Lib.hid (fun X hs => Lengths_c X qA qc qp hs hqs.len hqs.text)
      have HCK := Lib.hid (fun X hT hs => Check_c X qA qc qp hT hs hqs.len hqs.text)
      have HOP := Lib.hid ((HI.out.later hB).each _ hq)
      obtain ⟨i1, i2, i3, i4, i5, i6⟩ := hI
      have HB := Lib.hid hB
      have HSN := Lib.hid (undoOk_snoc (runesI t) (backPs pre) qp)
      have HAS := Lib.hid (atOf_snoc (runesI t) (backPs pre) qp)
      generalize hag : atOf (runesI t) (backPs pre) = ag at *
      generalize lens qp = ln at *
      obtain ⟨l1, l2⟩ := ln
      have HAG := Lib.hid hag
      clear hag
      dsimp only at *
      gi_wp2
      refine ⟨trivial, CallsIn.inRound l (callsIn_wide.2 ((HLN.out W HOP.out).mono ?_))⟩
      rintro e W1 ⟨rfl, hb1⟩
      have HOP1 := Lib.hid (Sl.later HOP.out hb1)
      have HB1 := Lib.hid (bThen HB.out hb1)
      gi_wp2
      refine ⟨trivial, CallsIn.inRound l (callsIn_wide.2 ((HCK.out W1 (HT.out.later HB1.out) HOP1.out).mono ?_))⟩
      rintro e W2 ⟨rfl, hb2⟩
      have HB2 := Lib.hid (bThen hb1 hb2)
      have HBW := Lib.hid (bThen HB.out HB2.out)
      have j2 := (HB2.out.cell (p := ⟨AT, 0, none⟩) (block_lt_of_cell i2)).trans i2
      have j3 := (HB2.out.frozen (p := ⟨AT, 0, none⟩) (block_lt_of_cell i2)).trans i3
      have j4 := (HB2.out.cell (p := ⟨w.heap.size + 1, 0, none⟩) (block_lt_of_cell i4)).trans i4
      have j5 := (HB2.out.frozen (p := ⟨w.heap.size + 1, 0, none⟩) (block_lt_of_cell i4)).trans i5
      have HJ6 := Lib.hid ((HB2.out.cell (p := ⟨w.heap.size, 6, none⟩) (block_lt_of_cell i6)).trans i6)
      have HZ2 := Lib.hid HB2.out.size
      clear hb1 hb2 i2 i3 i4 i5 i6
      by_cases hf : opFault qp = 0
      · rw [hf]
        by_cases ha : l1 = ag
        · have HNW := Lib.hid (show undoOk (runesI t) (backPs (pre ++ [(⟨k, ⟨⟨qA, qc, qp⟩, hq⟩⟩ : BackI U)])) by rw [HQ.out]; exact HSN.out.2 ⟨i1, hf, ha⟩)
          have ha2 : (l1 != ag) = false := by simpa using ha
          clear ha hf
          gi_wp2
          have hne1 : w.heap.size + 1 ≠ AT := by omega
          have hne0 : w.heap.size ≠ AT := by omega
          exact ⟨(keepsOthers_of HB2.out).trans (KeepsOthers.setCell _ _ _),
            ⟨(HB2.out.mono HB.out.size).setCell (p := ⟨AT, 0, none⟩) (by show w.heap.size ≤ AT; omega) _, (Below.heap_setCell W2 ⟨AT, 0, none⟩ _ (AT + 1) (by show AT + 1 ≠ AT; omega)).trans (HB2.out.block _ (by omega))⟩,
            ⟨HNW.out, by rw [HQ.out, HAS.out]; exact World.cell?_setCell_same' _ _ _ (by rw [j2]; rfl), by rw [World.frozen?_setCell]; exact j3, (World.cell?_of_block (a := ⟨w.heap.size + 1, 0, none⟩) (Below.heap_setCell W2 ⟨AT, 0, none⟩ _ _ hne1)).trans j4, by rw [World.frozen?_setCell]; exact j5, (World.cell?_of_block (a := ⟨w.heap.size, 6, none⟩) (Below.heap_setCell W2 ⟨AT, 0, none⟩ _ _ hne0)).trans HJ6.out⟩,
            HBW.out.setCell (p := ⟨AT, 0, none⟩) (by show w.heap.size ≤ AT; omega) _, by have := HZ2.out; simp [World.setCell]; omega⟩
        · have HNW := Lib.hid (show ¬ undoOk (runesI t) (backPs (pre ++ [(⟨k, ⟨⟨qA, qc, qp⟩, hq⟩⟩ : BackI U)])) by rw [HQ.out]; exact fun h => ha (HSN.out.1 h).2.2)
          have ha2 : (l1 != ag) = true := by simpa using ha
          clear ha hf
          gi_wp2
          exact ⟨(keepsOthers_of HB2.out).trans (KeepsOthers.setCell _ _ _), ⟨rfl, HNW.out, World.cell?_setCell_same' _ _ _ (by rw [j4]; rfl)⟩, HBW.out.setCell (p := ⟨w.heap.size + 1, 0, none⟩) (by simp) _⟩
      · have HNW := Lib.hid (show ¬ undoOk (runesI t) (backPs (pre ++ [(⟨k, ⟨⟨qA, qc, qp⟩, hq⟩⟩ : BackI U)])) by rw [HQ.out]; exact fun h => hf (HSN.out.1 h).2.1)
        have hf2 : (opFault qp != 0) = true := by simpa using hf
        generalize opFault qp = er at *
        clear hf
        gi_wp2
        exact ⟨(keepsOthers_of HB2.out).trans (KeepsOthers.setCell _ _ _), ⟨rfl, HNW.out, World.cell?_setCell_same' _ _ _ (by rw [j4]; rfl)⟩, HBW.out.setCell (p := ⟨w.heap.size + 1, 0, none⟩) (by simp) _⟩
    case done =>
      rintro D ys W hD hys ⟨hI, hB, hsz⟩ hK
      obtain ⟨i1, i2, i3, i4, i5, i6⟩ := hI
      gi_wp2
      have hK' := (KeepsOthers.setCell W ⟨w.heap.size + 1, 0, none⟩ (.bool (decide ((U.length : Int) ≤ 12)))).same D _ hK rfl
      refine ⟨by simp, .inl ⟨_, _, rfl, run_takeDeferred hK', ?_⟩⟩
      have hc5 := cell_kept (World.cell?_setCell_same' W ⟨w.heap.size + 1, 0, none⟩ (.bool (decide ((U.length : Int) ≤ 12))) (by rw [i4]; rfl)) (grownBy_putObj' _ D (.deferred none)) (fun r e => by cases e; exact ⟨_, hK', rfl⟩)
      refine ⟨.bool (decide ((U.length : Int) ≤ 12)), ?_, ⟨⟨_, rfl, ?_⟩, (hB.setCell (p := ⟨w.heap.size + 1, 0, none⟩) (by simp) _).trans (belowK_b (w := w) (Nat.le_refl _) _ D _ _ (by omega) hK' rfl rfl)⟩⟩
      · simp [results, Tryd.results27, go_sem, hc5]
      · have e : backPs ys = (U.map OpV.ps).reverse := by unfold backPs; rw [hys, List.map_reverse]
        rw [e] at i1
        simp only [decide_eq_true_eq]
        exact ⟨fun h => ⟨i1, by omega⟩, fun h => by omega⟩
    case stop =>
      rintro D c pre W hD hpre ⟨⟨rfl, hno, hcr⟩, hB⟩ hK
      gi_wp2
      refine ⟨by simp, .inl ⟨_, _, rfl, run_takeDeferred hK, ?_⟩⟩
      have hc5 := cell_kept hcr (grownBy_putObj' _ D (.deferred none)) (fun r e => by cases e; exact ⟨_, hK, rfl⟩)
      refine ⟨.bool false, ?_, ⟨⟨_, rfl, ?_⟩, hB.trans (belowK_b (w := w) (Nat.le_refl _) W D _ _ (by omega) hK rfl rfl)⟩⟩
      · simp [results, Tryd.results27, go_sem, hc5]
      · refine ⟨fun h => (by cases h), fun h => ?_⟩
        obtain ⟨b, hb⟩ := hpre
        exact absurd (undoOk_pre (b := b.map OpV.ps) (by unfold backPs; rw [← List.map_append, hb, List.map_reverse]; exact h.1)) hno)
end Go.Proofs.YtbmdepbmejnlkaaDoor
