/-
  Contracts of wire.EncodeRecord and its reference RecordBytes.
-/
import Derived.Test.YtiooimnlkcpnnaaDoorRows
import Derived.Test.YtiooimnlkcpnnaaDoorWriter
import Derived.Test.YtiooimnlkcpnnaaDoorSevens
import Derived.Test.YtiooimnlkcpnnaaDoorWireA
import Derived.Test.YtiooimnlkcpnnaaDoorApplyP
namespace Go.Proofs.YtiooimnlkcpnnaaDoor
open Go.ChangeShapes Go.WideShapes Go.ChangeAt Go.RowKit
set_option maxRecDepth 100000
theorem box_at {w w1 : World} {vs : Array Value} {t : TypeId} (hb : Below (w.alloc (.cells vs t)).heap.size (w.alloc (.cells vs t)) w1) (j : Nat) : w1.cell? ⟨w.heap.size, j, none⟩ = vs[j]? := by
  rw [hb.cell (p := ⟨w.heap.size, j, none⟩) (by simp), World.cell?_alloc_new]
theorem box_below {w w1 : World} {o : Obj} (hb : Below (w.alloc o).heap.size (w.alloc o) w1) : Below w.heap.size w w1 := bThen (bAlloc (Below.refl _ _) o) hb
/-- A call that hands back these bytes in memory of its own, and a number. -/
def RetBytesE (w : World) (bs : List UInt8) (er : Int) (e : Ending) (w' : World) : Prop :=
  ∃ A c, e = .returned (.tuple #[.slice A bs.length c, .int .i64 er]) ∧ w'.ownsRow w.heap.size 5 1 (.slice A bs.length c) bs.length (bs.map byteV) ∧ Below w.heap.size w w'
theorem writ_of {ps : List PartD} (h : opFault ps = 0) (ht : ∀ p ∈ ps, p.text.size ≤ 1048576) : ∀ p ∈ ps, p.Writ := by
  have ok : ∀ {qs : List PartD}, okParts qs → ∀ p ∈ qs, partFault p = 0 := by
    intro qs
    induction qs with
    | nil => intro _ p hp; cases hp
    | cons q qs ih =>
      intro hq p hp
      rcases List.mem_cons.1 hp with rfl | h
      · exact hq.1
      · exact ih hq.2.2 p h
  intro p hp
  have h0 := ok (opFault_zero h).2.1 p hp
  rcases partFault_zero h0 with ⟨h1, h2, _⟩ | ⟨h1, h2, h3, _⟩
  · exact ⟨by omega, fun q => absurd h1 q, ht p hp⟩
  · exact ⟨by omega, fun _ => by omega, ht p hp⟩
def recordL (ep : Int) (ps : List PartD) : List UInt8 := if 0 < ep then sevensL ep.toNat else sevensL 0 ++ opL ps
theorem EncodeRecord_no (w : World) (ep : Int) (A : Option Addr) (c : Nat) (ps : List PartD) (hT : Tabs w) (hs : OpIn (· < w.heap.size) w A ps) (hm : ps.length ≤ 1048576) (ht : ∀ p ∈ ps, p.text.size ≤ 1048576) (hf : recordFault ep ps ≠ 0) :
    Calls Tryd.prog 103 #[recordV ep A ps.length c] w (RetBytesE w [] (recordFault ep ps)) := by
  have H := Lib.hid (fun W hT hs => CheckRecord_c W ep A c ps hT hs hm ht)
  have hb0 : (recordFault ep ps != 0) = true := by simpa using hf
  generalize recordFault ep ps = x at *
  clear hf ht
  go_enter Tryd.func103, Tryd.ntmps103
  go_wp2_with fail
  refine (H.out _ (hT.later (by repeat (first | exact Below.refl _ _ | apply bGrow | apply bAlloc | apply Below.drew | apply bDrewN | apply bIter))) (Sl.later hs (by repeat (first | exact Below.refl _ _ | apply bGrow | apply bAlloc | apply Below.drew | apply bDrewN | apply bIter)))).mono ?_
  rintro e w1 ⟨rfl, hb1⟩
  go_wp2_with fail
  go_ret2
  exact ⟨none, 0, rfl, World.ownsRow_nil _ _ _ _, box_below hb1⟩
theorem EncodeRecord_ep (w : World) (ep : Int) (A : Option Addr) (c : Nat) (ps : List PartD) (hT : Tabs w) (hs : OpIn (· < w.heap.size) w A ps) (hm : ps.length ≤ 1048576) (ht : ∀ p ∈ ps, p.text.size ≤ 1048576) (hf : recordFault ep ps = 0) (h0 : 0 < ep) (h1 : ep ≤ 1048576) :
    Calls Tryd.prog 103 #[recordV ep A ps.length c] w (RetBytesE w (sevensL ep.toNat) 0) := by
  have h := fun W hT hs => CheckRecord_c W ep A c ps hT hs hm ht
  rw [hf] at h
  have H := Lib.hid h
  have e0 : (ep == 0) = false := by simp; omega
  clear hf ht h
  go_enter Tryd.func103, Tryd.ntmps103
  go_wp2_with fail
  refine (H.out _ (hT.later (by repeat (first | exact Below.refl _ _ | apply bGrow | apply bAlloc | apply Below.drew | apply bDrewN | apply bIter))) (Sl.later hs (by repeat (first | exact Below.refl _ _ | apply bGrow | apply bAlloc | apply Below.drew | apply bDrewN | apply bIter)))).mono ?_
  rintro e w1 ⟨rfl, hb1⟩
  have x0 := box_at hb1 0
  simp at x0
  have hz : w.heap.size < w1.heap.size := by have := hb1.size; simp at this; omega
  have HB := Lib.hid (box_below hb1)
  go_wp2_with fail
  refine (put_c _ w1.heap.size w1.heap.size [] ep (Buf.fresh w1 _ (Nat.le_refl _)) (by omega) (by omega) (by simp) (by simp)).mono ?_
  rintro e w2 ⟨rfl, hw2, hk2⟩
  have x2 : w2.cell? ⟨w.heap.size, 0, none⟩ = some (.int .i64 ep) := by
    rw [hk2.cell (by simp; omega) (by omega) (by rw [rowOf_eq (v := .slice none 0 0) (T := 129) (m := (0, 0)) (by show (w1.heap.push _)[w1.heap.size]? = _; simp)]; simp [Value.ownBlock])]
    rw [(bAlloc (Below.refl w1.heap.size w1) _).cell (p := ⟨w.heap.size, 0, none⟩) (by simp; omega)]
    exact x0
  have HK := Lib.hid hk2
  have HR := Lib.hid (show ∀ x, rowOf (w1.alloc (.cells #[.slice none 0 0] 129)) w1.heap.size = some x → w1.heap.size ≤ x by
    intro x hx
    rw [rowOf_eq (v := .slice none 0 0) (T := 129) (m := (0, 0)) (by show (w1.heap.push _)[w1.heap.size]? = _; simp)] at hx
    cases hx)
  obtain ⟨_, A2, c2, hobj, hown⟩ := hw2
  obtain ⟨y1, y2, y3⟩ := box_cell hobj
  clear hk2 hobj
  rw [List.nil_append] at y1 hown
  go_wp2_with fail
  go_ret2
  exact ⟨A2, c2, rfl, own_lower hown (by omega), bThen HB.out ((bAlloc (Below.refl w1.heap.size w1) _).trans (HK.out.below (Nat.le_refl _) HR.out (by simp)))⟩
theorem EncodeRecord_op (w : World) (A : Option Addr) (c : Nat) (ps : List PartD) (hT : Tabs w) (hs : OpIn (· < w.heap.size) w A ps) (hm : ps.length ≤ 1048576) (ht : ∀ p ∈ ps, p.text.size ≤ 1048576) (hf : recordFault 0 ps = 0) :
    Calls Tryd.prog 103 #[recordV 0 A ps.length c] w (RetBytesE w (sevensL 0 ++ opL ps) 0) := by
  have h := fun W hT hs => CheckRecord_c W 0 A c ps hT hs hm ht
  rw [hf] at h
  have H := Lib.hid h
  have hop : opFault ps = 0 := by
    unfold recordFault at hf
    rwa [if_neg (by omega), if_neg (by omega)] at hf
  have h8 := (opFault_zero hop).1
  have HP := Lib.hid (writ_of hop ht)
  clear hf ht h hop
  go_enter Tryd.func103, Tryd.ntmps103
  go_wp2_with fail
  refine (H.out _ (hT.later (by repeat (first | exact Below.refl _ _ | apply bGrow | apply bAlloc | apply Below.drew | apply bDrewN | apply bIter))) (Sl.later hs (by repeat (first | exact Below.refl _ _ | apply bGrow | apply bAlloc | apply Below.drew | apply bDrewN | apply bIter)))).mono ?_
  rintro e w1 ⟨rfl, hb1⟩
  have x0 := box_at hb1 0
  have x1 := box_at hb1 1
  simp at x0 x1
  have hz : w.heap.size < w1.heap.size := by have := hb1.size; simp at this; omega
  have HB := Lib.hid (box_below hb1)
  go_wp2_with fail
  refine (put_c _ w1.heap.size w1.heap.size [] 0 (Buf.fresh w1 _ (Nat.le_refl _)) (by omega) (by omega) (by simp) (by simp)).mono ?_
  rintro e w2 ⟨rfl, hw2, hk2⟩
  have hrow : rowOf (w1.alloc (.cells #[.slice none 0 0] 129)) w1.heap.size = none := rowOf_eq (v := .slice none 0 0) (T := 129) (m := (0, 0)) (by show (w1.heap.push _)[w1.heap.size]? = _; simp)
  have hcell : ∀ j, w2.cell? ⟨w.heap.size, j, none⟩ = w1.cell? ⟨w.heap.size, j, none⟩ := by
    intro j
    rw [hk2.cell (by simp; omega) (by omega) (by rw [hrow]; simp)]
    exact (bAlloc (Below.refl w1.heap.size w1) _).cell (p := ⟨w.heap.size, j, none⟩) (by simp; omega)
  have y0 := (hcell 0).trans x0
  have y1 := (hcell 1).trans x1
  have HB2 := Lib.hid (bThen HB.out ((bAlloc (Below.refl w1.heap.size w1) _).trans (hk2.below (Nat.le_refl _) (by rw [hrow]; intro x hx; cases hx) (by simp))))
  have HW := Lib.hid hw2
  have hz2 := hk2.size
  simp at hz2
  have HS := Lib.hid (Sl.below hs HB2.out (show w.heap.size ≤ w1.heap.size by omega))
  have HI := Lib.hid (And.intro hw2.lt hw2.row)
  clear hcell hrow hk2 hw2 x0 x1
  go_wp2_with fail
  refine (wop_c w2 w1.heap.size w1.heap.size _ A c ps HW.out HS.out h8 HP.out (by have := sevens_ten (n := (0 : Int).toNat) (by decide); rw [List.nil_append]; omega) (by omega)).mono ?_
  rintro e w3 ⟨rfl, hw3, hk3⟩
  have HK := Lib.hid hk3
  obtain ⟨_, A2, c2, hobj, hown⟩ := hw3
  obtain ⟨z1, z2, z3⟩ := box_cell hobj
  clear hk3 hobj
  rw [List.nil_append] at z1 hown
  go_wp2_with fail
  go_ret2
  exact ⟨A2, c2, by rw [List.length_append]; rfl, own_lower hown (by omega), HB2.out.trans (HK.out.below (by omega) (fun x hx => by have := (HI.out.2 x hx).1; omega) (by omega))⟩
theorem EncodeRecord_c (w : World) (ep : Int) (A : Option Addr) (c : Nat) (ps : List PartD) (hT : Tabs w) (hs : OpIn (· < w.heap.size) w A ps) (hm : ps.length ≤ 1048576) (ht : ∀ p ∈ ps, p.text.size ≤ 1048576) :
    Calls Tryd.prog 103 #[recordV ep A ps.length c] w (RetBytesE w (if recordFault ep ps = 0 then recordL ep ps else []) (recordFault ep ps)) := by
  by_cases hf : recordFault ep ps = 0
  · rw [if_pos hf, hf]
    have hr : 0 ≤ ep ∧ ep ≤ 1048576 := by
      rcases Classical.em (ep < 0 ∨ 1048576 < ep) with q | q
      · unfold recordFault at hf
        rw [if_pos q] at hf
        cases hf
      · omega
    unfold recordL
    by_cases h0 : 0 < ep
    · rw [if_pos h0]
      exact EncodeRecord_ep w ep A c ps hT hs hm ht hf h0 hr.2
    · rw [if_neg h0]
      obtain rfl : ep = 0 := by omega
      exact EncodeRecord_op w A c ps hT hs hm ht hf
  · rw [if_neg hf]
    exact EncodeRecord_no w ep A c ps hT hs hm ht hf
theorem recordErr_c (w : World) (ep : Int) (A : Option Addr) (c : Nat) (ps : List PartD) (hT : Tabs w) (hs : OpIn (· < w.heap.size) w A ps) (hm : ps.length ≤ 1048576) (ht : ∀ p ∈ ps, p.text.size ≤ 1048576) (hf : recordFault ep ps ≠ 0) :
    Calls Tryd.prog 106 #[recordV ep A ps.length c] w (RetBytesE w [] (recordFault ep ps)) := by
  have H := Lib.hid (fun W hT hs => RecordFault_c W ep A c ps hT hs hm ht)
  have hb0 : (recordFault ep ps != 0) = true := by simpa using hf
  generalize recordFault ep ps = x at *
  clear hf ht
  go_enter Tryd.func106, Tryd.ntmps106
  go_wp2_with fail
  refine (H.out _ (hT.later (by repeat (first | exact Below.refl _ _ | apply bGrow | apply bAlloc | apply Below.drew | apply bDrewN | apply bIter))) (Sl.later hs (by repeat (first | exact Below.refl _ _ | apply bGrow | apply bAlloc | apply Below.drew | apply bDrewN | apply bIter)))).mono ?_
  rintro e w1 ⟨rfl, hb1⟩
  go_wp2_with fail
  go_ret2
  exact ⟨none, 0, rfl, World.ownsRow_nil _ _ _ _, box_below hb1⟩
theorem recordEp_c (w : World) (ep : Int) (A : Option Addr) (c : Nat) (ps : List PartD) (hT : Tabs w) (hs : OpIn (· < w.heap.size) w A ps) (hm : ps.length ≤ 1048576) (ht : ∀ p ∈ ps, p.text.size ≤ 1048576) (hf : recordFault ep ps = 0) (h0 : 0 < ep) (h1 : ep ≤ 1048576) :
    Calls Tryd.prog 106 #[recordV ep A ps.length c] w (RetBytesE w (sevensL ep.toNat) 0) := by
  have h := fun W hT hs => RecordFault_c W ep A c ps hT hs hm ht
  rw [hf] at h
  have H := Lib.hid h
  have e0 : decide (0 < ep) = true := by simpa using h0
  clear hf ht h
  go_enter Tryd.func106, Tryd.ntmps106
  go_wp2_with fail
  refine (H.out _ (hT.later (by repeat (first | exact Below.refl _ _ | apply bGrow | apply bAlloc | apply Below.drew | apply bDrewN | apply bIter))) (Sl.later hs (by repeat (first | exact Below.refl _ _ | apply bGrow | apply bAlloc | apply Below.drew | apply bDrewN | apply bIter)))).mono ?_
  rintro e w1 ⟨rfl, hb1⟩
  have x0 := box_at hb1 0
  simp at x0
  have HB := Lib.hid (box_below hb1)
  go_wp2_with fail
  refine (sevens_z ep _ (by omega) (by omega)).mono ?_
  rintro e w2 ⟨A2, c2, rfl, hown, hb2⟩
  go_wp2_with fail
  go_ret2
  exact ⟨A2, c2, rfl, own_lower hown HB.out.size, bThen HB.out hb2⟩
theorem recordOp_c (w : World) (A : Option Addr) (c : Nat) (ps : List PartD) (hT : Tabs w) (hs : OpIn (· < w.heap.size) w A ps) (hm : ps.length ≤ 1048576) (ht : ∀ p ∈ ps, p.text.size ≤ 1048576) (hf : recordFault 0 ps = 0) :
    Calls Tryd.prog 106 #[recordV 0 A ps.length c] w (RetBytesE w (sevensL 0 ++ opL ps) 0) := by
  have h := fun W hT hs => RecordFault_c W 0 A c ps hT hs hm ht
  rw [hf] at h
  have H := Lib.hid h
  have hop : opFault ps = 0 := by
    unfold recordFault at hf
    rwa [if_neg (by omega), if_neg (by omega)] at hf
  have h8 := (opFault_zero hop).1
  have HW := writ_of hop ht
  have HO := Lib.hid (fun W hs => opBytes_c W A c ps hs h8 HW)
  have HZ := Lib.hid (fun W => sevens_z 0 W (by omega) (by omega))
  have hl1 := opL_bound h8 HW
  have hl2 := sevens_ten (n := (0 : Int).toNat) (by decide)
  rw [show ((0 : Int).toNat) = 0 from rfl] at HZ hl2
  generalize sevensL 0 = sa at *
  generalize hG : opL ps = sb at *
  clear hf ht h hop HW hG
  go_enter Tryd.func106, Tryd.ntmps106
  go_wp2_with fail
  refine (H.out _ (hT.later (by repeat (first | exact Below.refl _ _ | apply bGrow | apply bAlloc | apply Below.drew | apply bDrewN | apply bIter))) (Sl.later hs (by repeat (first | exact Below.refl _ _ | apply bGrow | apply bAlloc | apply Below.drew | apply bDrewN | apply bIter)))).mono ?_
  rintro e w1 ⟨rfl, hb1⟩
  have x0 := box_at hb1 0
  have x1 := box_at hb1 1
  simp at x0 x1
  have hz : w.heap.size < w1.heap.size := by have := hb1.size; simp at this; omega
  have HB := Lib.hid (box_below hb1)
  have HS1 := Lib.hid (Sl.later hs HB.out)
  clear hb1
  go_wp2_with fail
  go_region_held3 (fun w' => w'.cell? ⟨w.heap.size, 1, none⟩ = some (.slice A ps.length c))
    (go_keep)
    ((first
      | (go_at_call 91; (with_reducible refine (HZ.out _).mono ?_); rintro e wa ⟨Aa, ca, rfl, hoa, hba⟩; obtain ⟨⟨da, osa⟩, rfl⟩ := beyond_of hba)
      | (go_at_call 92; refine (HO.out _ ?_).mono ?_; (first | exact HS1.out | exact Sl.later HS1.out (below_regrown _ _ _)); (rintro e wb ⟨Ab, cb, rfl, hob, hbb⟩; obtain ⟨⟨db, osb⟩, rfl⟩ := beyond_of hbb))
      | (go_at_call 90; refine (joined_two _ _ _ _ _ _ _ _ _ sa sb _ ?_ rfl rfl ?_ ?_ ?_).mono ?_; simp; (first | exact own_sl hoa | exact Sl.later (own_sl hoa) (below_regrown _ _ _)); (first | exact hob | exact Sl.later hob (below_regrown _ _ _)); omega; (rintro e w4 ⟨A4, c4, rfl, ho4, hb4⟩; obtain ⟨⟨d4, os4⟩, rfl⟩ := beyond_of hb4))))
  all_goals
    go_wp2_with fail
    go_ret2
    exact ⟨A4, c4, by rw [List.length_append]; rfl, own_lower ho4 (by simp; omega), bThen HB.out (by repeat (first | exact Below.refl _ _ | apply bGrow | apply bAlloc | apply Below.drew | apply bDrewN | apply bIter))⟩
theorem RecordBytes_c (w : World) (ep : Int) (A : Option Addr) (c : Nat) (ps : List PartD) (hT : Tabs w) (hs : OpIn (· < w.heap.size) w A ps) (hm : ps.length ≤ 1048576) (ht : ∀ p ∈ ps, p.text.size ≤ 1048576) :
    Calls Tryd.prog 106 #[recordV ep A ps.length c] w (RetBytesE w (if recordFault ep ps = 0 then recordL ep ps else []) (recordFault ep ps)) := by
  by_cases hf : recordFault ep ps = 0
  · rw [if_pos hf, hf]
    have hr : 0 ≤ ep ∧ ep ≤ 1048576 := by
      rcases Classical.em (ep < 0 ∨ 1048576 < ep) with q | q
      · unfold recordFault at hf
        rw [if_pos q] at hf
        cases hf
      · omega
    unfold recordL
    by_cases h0 : 0 < ep
    · rw [if_pos h0]
      exact recordEp_c w ep A c ps hT hs hm ht hf h0 hr.2
    · rw [if_neg h0]
      obtain rfl : ep = 0 := by omega
      exact recordOp_c w A c ps hT hs hm ht hf
  · rw [if_neg hf]
    exact recordErr_c w ep A c ps hT hs hm ht hf
end Go.Proofs.YtiooimnlkcpnnaaDoor
